/- Parts of a proof, laid together: W94, W25, W97, WO, W98, WS, WF, W47, EnY. -/
import Derived.Shelf.SlSortCmp.NoneTotal
import Derived.Test.YtihkcegelghcpaaqWk6
section
/- A part of a proof: walks over the functions that it names; their contracts hold for every argument. -/

set_option linter.unusedSimpArgs false
set_option linter.unusedVariables false
namespace Go.Proofs.Ytihkcegelghcpaa
open Go Go.Dm
attribute [local irreducible] DW callP callS
set_option maxRecDepth 100000

def anW9494 : Ann := ⟨[], []⟩
/-- IndexFunc at Sym: the first one that the closure says yes to -/
theorem indexFunc94_pure (g : FuncId) (us cs : List DVal) (l : List Sym) (q : Sym → Bool) (hq : ∀ x ∈ l, DPure Try.prog g (us ++ [.agg (dSym x)] ++ cs) (.bool (q x))) :
    DPure Try.prog 94 [dSyms l, .fn (.func g) us cs] (.int .i64 (if l.any q then ((l.findIdx q : Nat) : Int) else -1)) := by
  refine DPure_introF [] (fn := Try.f94) Try.func94 rfl Try.call94 (by simp [Try.ntmps94]) (by simp [mx]) ?_
  intro hwf B hnt
  have hw : wSyms l := w_syms hwf.1
  obtain ⟨hw1, hw2, hw3⟩ := hw
  clear hwf hw3
  simp only [argS]
  (repeat (first
      | (refine DW_seq fun K hK => ?_)
      | (refine DW_r anW9494 Try.mixed (by kernel_rfl) ?_; simp [hnt, Try.ntmps94, Try.results94, anW9494]; try simp (disch := omega) only [wrap64_in])
      | (refine DW_block ?_)
      | (focus (refine DW_if ?_ ?_ ?_; (· (simp [hnt, Try.ntmps94, Try.results94, anW9494]; done)); (try (rotate_left; (· (intro hc; (try simp [hnt, Try.ntmps94, Try.results94, anW9494] at hc); done))))))
      | (refine DW_ret ?_; simp [hnt, Try.ntmps94, Try.results94, anW9494])
      | (refine DW_exit ?_; simp [hnt, Try.ntmps94, Try.results94, anW9494])
      | (refine DW_skip ?_; simp [hnt, Try.ntmps94, Try.results94, anW9494])
      | (intro hc; (try simp [hnt, Try.ntmps94, Try.results94, anW9494] at hc); done)
      | (intro hc; (try simp [hnt, Try.ntmps94, Try.results94, anW9494] at hc); (first | (exfalso; omega) | skip))
      | (refine ⟨?_, ?_⟩; · omega)
      | omega
      | apply_assumption -exfalso -symm
      | (exfalso; omega)))
  refine DW_loop (X := {k : Nat // k ≤ l.length ∧ ∀ i x, i < k → l[i]? = some x → q x = false}) (fun x => ⟨[(0, dSyms l), (1, .fn (.func g) us cs), (7, .int .i64 l.length), (8, .int .i64 x.1)], []⟩) (fun x => l.length - x.1) ⟨0, by simp⟩ (Sub.lit (by simp)) ?_
  rintro ⟨k, hk, hno⟩
  by_cases hlt : k < l.length
  · obtain ⟨x, hx, hx', hxm⟩ := at_lt' hlt
    have hqx := hq x hxm
    simp only [dSym, List.append_assoc, List.cons_append, List.nil_append] at hqx
    cases hb : q x
    · rw [hb] at hqx
      have hno' : ∀ i y, i < k + 1 → l[i]? = some y → q y = false := by
        intro i y hi hy
        by_cases hik : i = k
        · subst hik; rw [hx] at hy; simp only [Option.some.injEq] at hy; subst hy; exact hb
        · exact hno i y (by omega) hy
      (repeat (first
          | (refine DW_seq fun K hK => ?_)
          | (refine DW_r anW9494 Try.mixed (by kernel_rfl) ?_; simp [hnt, Try.ntmps94, Try.results94, anW9494, dSym, hlt, hx']; try simp (disch := omega) only [wrap64_in])
          | (refine DW_block ?_)
          | (focus (refine DW_if ?_ ?_ ?_; (· (simp [hnt, Try.ntmps94, Try.results94, anW9494, dSym, hlt, hx']; done)); (try (rotate_left; (· (intro hc; (try simp [hnt, Try.ntmps94, Try.results94, anW9494, dSym, hlt, hx'] at hc); done))))))
          | (refine DW_ret ?_; simp [hnt, Try.ntmps94, Try.results94, anW9494, dSym, hlt, hx'])
          | (refine DW_exit ?_; simp [hnt, Try.ntmps94, Try.results94, anW9494, dSym, hlt, hx'])
          | (refine DW_skip ?_; simp [hnt, Try.ntmps94, Try.results94, anW9494, dSym, hlt, hx'])
          | (intro hc; (try simp [hnt, Try.ntmps94, Try.results94, anW9494, dSym, hlt, hx'] at hc); done)
          | (intro hc; (try simp [hnt, Try.ntmps94, Try.results94, anW9494, dSym, hlt, hx'] at hc); (first | (exfalso; omega) | skip))
          | (refine callP_mk (hqx) ?_; try simp [hnt, Try.ntmps94, Try.results94, anW9494, dSym, hlt, hx'])
          | (refine callP_wk (hqx) ?_ ?_; (· (simp; done)); try simp [hnt, Try.ntmps94, Try.results94, anW9494, dSym, hlt, hx'])
          | (refine ⟨?_, ?_⟩; · omega)
          | omega
          | apply_assumption -exfalso -symm
          | (exfalso; omega)))
      exact Again.mk ⟨k + 1, by omega, hno'⟩ (Sub.lit (by simp [])) (by simp; omega)
      (repeat (first
          | (refine DW_seq fun K hK => ?_)
          | (refine DW_r anW9494 Try.mixed (by kernel_rfl) ?_; simp [hnt, Try.ntmps94, Try.results94, anW9494, dSym, hlt, hx']; try simp (disch := omega) only [wrap64_in])
          | (refine DW_block ?_)
          | (focus (refine DW_if ?_ ?_ ?_; (· (simp [hnt, Try.ntmps94, Try.results94, anW9494, dSym, hlt, hx']; done)); (try (rotate_left; (· (intro hc; (try simp [hnt, Try.ntmps94, Try.results94, anW9494, dSym, hlt, hx'] at hc); done))))))
          | (refine DW_ret ?_; simp [hnt, Try.ntmps94, Try.results94, anW9494, dSym, hlt, hx'])
          | (refine DW_exit ?_; simp [hnt, Try.ntmps94, Try.results94, anW9494, dSym, hlt, hx'])
          | (refine DW_skip ?_; simp [hnt, Try.ntmps94, Try.results94, anW9494, dSym, hlt, hx'])
          | (intro hc; (try simp [hnt, Try.ntmps94, Try.results94, anW9494, dSym, hlt, hx'] at hc); done)
          | (intro hc; (try simp [hnt, Try.ntmps94, Try.results94, anW9494, dSym, hlt, hx'] at hc); (first | (exfalso; omega) | skip))
          | (refine callP_mk (hqx) ?_; try simp [hnt, Try.ntmps94, Try.results94, anW9494, dSym, hlt, hx'])
          | (refine callP_wk (hqx) ?_ ?_; (· (simp; done)); try simp [hnt, Try.ntmps94, Try.results94, anW9494, dSym, hlt, hx'])
          | (refine ⟨?_, ?_⟩; · omega)
          | omega
          | apply_assumption -exfalso -symm
          | (exfalso; omega)))
    · rw [hb] at hqx
      have hany : l.any q = true := List.any_eq_true.2 ⟨x, hxm, hb⟩
      have hidx : l.findIdx q = k := by
        rw [List.findIdx_eq hlt]
        refine ⟨by rw [hx']; exact hb, fun i hi => ?_⟩
        exact hno i _ hi (List.getElem?_eq_getElem (by omega))
      (repeat (first
          | (refine DW_seq fun K hK => ?_)
          | (refine DW_r anW9494 Try.mixed (by kernel_rfl) ?_; simp [hnt, Try.ntmps94, Try.results94, anW9494, dSym, hlt, hx', hany, hidx]; try simp (disch := omega) only [wrap64_in])
          | (refine DW_block ?_)
          | (focus (refine DW_if ?_ ?_ ?_; (· (simp [hnt, Try.ntmps94, Try.results94, anW9494, dSym, hlt, hx', hany, hidx]; done)); (try (rotate_left; (· (intro hc; (try simp [hnt, Try.ntmps94, Try.results94, anW9494, dSym, hlt, hx', hany, hidx] at hc); done))))))
          | (refine DW_ret ?_; simp [hnt, Try.ntmps94, Try.results94, anW9494, dSym, hlt, hx', hany, hidx])
          | (refine DW_exit ?_; simp [hnt, Try.ntmps94, Try.results94, anW9494, dSym, hlt, hx', hany, hidx])
          | (refine DW_skip ?_; simp [hnt, Try.ntmps94, Try.results94, anW9494, dSym, hlt, hx', hany, hidx])
          | (intro hc; (try simp [hnt, Try.ntmps94, Try.results94, anW9494, dSym, hlt, hx', hany, hidx] at hc); done)
          | (intro hc; (try simp [hnt, Try.ntmps94, Try.results94, anW9494, dSym, hlt, hx', hany, hidx] at hc); (first | (exfalso; omega) | skip))
          | (refine callP_mk (hqx) ?_; try simp [hnt, Try.ntmps94, Try.results94, anW9494, dSym, hlt, hx', hany, hidx])
          | (refine callP_wk (hqx) ?_ ?_; (· (simp; done)); try simp [hnt, Try.ntmps94, Try.results94, anW9494, dSym, hlt, hx', hany, hidx])
          | (refine ⟨?_, ?_⟩; · omega)
          | omega
          | apply_assumption -exfalso -symm
          | (exfalso; omega)))
  · have hkk : k = l.length := by omega
    have hany : l.any q = false := by
      rw [List.any_eq_false]
      intro x hx
      obtain ⟨i, hi, rfl⟩ := List.getElem_of_mem hx
      rw [hno i _ (by omega) (List.getElem?_eq_getElem hi)]
      simp
    (repeat (first
        | (refine DW_seq fun K hK => ?_)
        | (refine DW_r anW9494 Try.mixed (by kernel_rfl) ?_; simp [hnt, Try.ntmps94, Try.results94, anW9494, dSym, hkk, hany]; try simp (disch := omega) only [wrap64_in])
        | (refine DW_block ?_)
        | (focus (refine DW_if ?_ ?_ ?_; (· (simp [hnt, Try.ntmps94, Try.results94, anW9494, dSym, hkk, hany]; done)); (try (rotate_left; (· (intro hc; (try simp [hnt, Try.ntmps94, Try.results94, anW9494, dSym, hkk, hany] at hc); done))))))
        | (refine DW_ret ?_; simp [hnt, Try.ntmps94, Try.results94, anW9494, dSym, hkk, hany])
        | (refine DW_exit ?_; simp [hnt, Try.ntmps94, Try.results94, anW9494, dSym, hkk, hany])
        | (refine DW_skip ?_; simp [hnt, Try.ntmps94, Try.results94, anW9494, dSym, hkk, hany])
        | (intro hc; (try simp [hnt, Try.ntmps94, Try.results94, anW9494, dSym, hkk, hany] at hc); done)
        | (intro hc; (try simp [hnt, Try.ntmps94, Try.results94, anW9494, dSym, hkk, hany] at hc); (first | (exfalso; omega) | skip))
        | (refine callP_mk (hqx) ?_; try simp [hnt, Try.ntmps94, Try.results94, anW9494, dSym, hkk, hany])
        | (refine callP_wk (hqx) ?_ ?_; (· (simp; done)); try simp [hnt, Try.ntmps94, Try.results94, anW9494, dSym, hkk, hany])
        | (refine ⟨?_, ?_⟩; · omega)
        | omega
        | apply_assumption -exfalso -symm
        | (exfalso; omega)))

def anW9454 : Ann := ⟨[], []⟩
theorem containsFunc54_pure (g : FuncId) (us cs : List DVal) (l : List Sym) (q : Sym → Bool) (hq : ∀ x ∈ l, DPure Try.prog g (us ++ [.agg (dSym x)] ++ cs) (.bool (q x))) :
    DPure Try.prog 54 [dSyms l, .fn (.func g) us cs] (.bool (l.any q)) := by
  refine DPure_introF [] (fn := Try.f54) Try.func54 rfl Try.call54 (by simp [Try.ntmps54]) (by simp [mx]) ?_
  intro hwf B hnt
  simp only [argS]
  have hi := indexFunc94_pure g us cs l q hq
  have hge : (0 : Int) ≤ (l.findIdx q : Nat) := by omega
  cases hb : l.any q
  · rw [hb] at hi
    (repeat (first
        | (refine DW_seq fun K hK => ?_)
        | (refine DW_r anW9454 Try.mixed (by kernel_rfl) ?_; simp [hnt, Try.ntmps54, Try.results54, anW9454, hb]; try simp (disch := omega) only [wrap64_in])
        | (refine DW_block ?_)
        | (focus (refine DW_if ?_ ?_ ?_; (· (simp [hnt, Try.ntmps54, Try.results54, anW9454, hb]; done)); (try (rotate_left; (· (intro hc; (try simp [hnt, Try.ntmps54, Try.results54, anW9454, hb] at hc); done))))))
        | (refine DW_ret ?_; simp [hnt, Try.ntmps54, Try.results54, anW9454, hb])
        | (refine DW_exit ?_; simp [hnt, Try.ntmps54, Try.results54, anW9454, hb])
        | (refine DW_skip ?_; simp [hnt, Try.ntmps54, Try.results54, anW9454, hb])
        | (intro hc; (try simp [hnt, Try.ntmps54, Try.results54, anW9454, hb] at hc); done)
        | (intro hc; (try simp [hnt, Try.ntmps54, Try.results54, anW9454, hb] at hc); (first | (exfalso; omega) | skip))
        | (refine callP_mk (hi) ?_; try simp [hnt, Try.ntmps54, Try.results54, anW9454, hb])
        | (refine callP_wk (hi) ?_ ?_; (· (simp; done)); try simp [hnt, Try.ntmps54, Try.results54, anW9454, hb])
        | (refine ⟨?_, ?_⟩; · omega)
        | omega
        | apply_assumption -exfalso -symm
        | (exfalso; omega)))
  · rw [hb] at hi
    (repeat (first
        | (refine DW_seq fun K hK => ?_)
        | (refine DW_r anW9454 Try.mixed (by kernel_rfl) ?_; simp [hnt, Try.ntmps54, Try.results54, anW9454, hb]; try simp (disch := omega) only [wrap64_in])
        | (refine DW_block ?_)
        | (focus (refine DW_if ?_ ?_ ?_; (· (simp [hnt, Try.ntmps54, Try.results54, anW9454, hb]; done)); (try (rotate_left; (· (intro hc; (try simp [hnt, Try.ntmps54, Try.results54, anW9454, hb] at hc); done))))))
        | (refine DW_ret ?_; simp [hnt, Try.ntmps54, Try.results54, anW9454, hb])
        | (refine DW_exit ?_; simp [hnt, Try.ntmps54, Try.results54, anW9454, hb])
        | (refine DW_skip ?_; simp [hnt, Try.ntmps54, Try.results54, anW9454, hb])
        | (intro hc; (try simp [hnt, Try.ntmps54, Try.results54, anW9454, hb] at hc); done)
        | (intro hc; (try simp [hnt, Try.ntmps54, Try.results54, anW9454, hb] at hc); (first | (exfalso; omega) | skip))
        | (refine callP_mk (hi) ?_; try simp [hnt, Try.ntmps54, Try.results54, anW9454, hb])
        | (refine callP_wk (hi) ?_ ?_; (· (simp; done)); try simp [hnt, Try.ntmps54, Try.results54, anW9454, hb])
        | (refine ⟨?_, ?_⟩; · omega)
        | omega
        | apply_assumption -exfalso -symm
        | (exfalso; omega)))
end Go.Proofs.Ytihkcegelghcpaa
end

section
/- A part of a proof: walks over the functions that it names; their contracts hold for every argument. -/

set_option linter.unusedSimpArgs false
set_option linter.unusedVariables false
namespace Go.Proofs.Ytihkcegelghcpaa
open Go Go.Dm
attribute [local irreducible] DW callP callS
set_option maxRecDepth 100000

def ntOK (c : Cnf) (n : Int) : Bool := decide (0 ≤ n) && decide (n < c.nts)
def symBad (c : Cnf) (s : Sym) : Bool := s.label && (decide (s.n < 0) || decide (16 ≤ s.n)) || !s.label && !ntOK c s.n
def prodOK (c : Cnf) (p : Prod) : Bool := ntOK c p.head && !p.body.any (symBad c)
def cnfOK (c : Cnf) : Bool := decide (1 ≤ c.nts) && decide (c.nts ≤ 1024) && c.prods.all (prodOK c)

def anW2553 : Ann := ⟨[], []⟩
theorem check1_pure (c : Cnf) (n : Int) : DPure Try.prog 53 [.int .i64 n, .ref [.int .i64 c.nts, dProds c.prods]] (.bool (ntOK c n)) := by
  refine DPure_introF [] (fn := Try.f53) Try.func53 rfl Try.call53 (by simp [Try.ntmps53]) (by simp [mx]) ?_
  intro hwf B hnt
  simp only [argS]
  by_cases h1 : 0 ≤ n <;> by_cases h2 : n < c.nts <;> (repeat (first
      | (refine DW_seq fun K hK => ?_)
      | (refine DW_r anW2553 Try.mixed (by kernel_rfl) ?_; simp [hnt, Try.ntmps53, Try.results53, anW2553, h1, h2, ntOK]; try simp (disch := omega) only [wrap64_in])
      | (refine DW_block ?_)
      | (focus (refine DW_if ?_ ?_ ?_; (· (simp [hnt, Try.ntmps53, Try.results53, anW2553, h1, h2, ntOK]; done)); (try (rotate_left; (· (intro hc; (try simp [hnt, Try.ntmps53, Try.results53, anW2553, h1, h2, ntOK] at hc); done))))))
      | (refine DW_ret ?_; simp [hnt, Try.ntmps53, Try.results53, anW2553, h1, h2, ntOK])
      | (refine DW_exit ?_; simp [hnt, Try.ntmps53, Try.results53, anW2553, h1, h2, ntOK])
      | (refine DW_skip ?_; simp [hnt, Try.ntmps53, Try.results53, anW2553, h1, h2, ntOK])
      | (intro hc; (try simp [hnt, Try.ntmps53, Try.results53, anW2553, h1, h2, ntOK] at hc); done)
      | (intro hc; (try simp [hnt, Try.ntmps53, Try.results53, anW2553, h1, h2, ntOK] at hc); (first | (exfalso; omega) | skip))
      | (refine ⟨?_, ?_⟩; · omega)
      | omega
      | apply_assumption -exfalso -symm
      | (exfalso; omega)))

abbrev dNt (c : Cnf) : DVal := .fn (.func 53) [] [.ref [.int .i64 c.nts, dProds c.prods]]

def anW2555 : Ann := ⟨[], []⟩
theorem check2_pure (c : Cnf) (s : Sym) : DPure Try.prog 55 [.agg [.bool s.label, .int .i64 s.n], .ref [dNt c]] (.bool (symBad c s)) := by
  refine DPure_introF [] (fn := Try.f55) Try.func55 rfl Try.call55 (by simp [Try.ntmps55]) (by simp [mx]) ?_
  intro hwf B hnt
  simp only [argS]
  cases hl : s.label
  · cases hb : ntOK c s.n <;> (repeat (first
      | (refine DW_seq fun K hK => ?_)
      | (refine DW_r anW2555 Try.mixed (by kernel_rfl) ?_; simp [hnt, Try.ntmps55, Try.results55, anW2555, hl, hb, symBad]; try simp (disch := omega) only [wrap64_in])
      | (refine DW_block ?_)
      | (focus (refine DW_if ?_ ?_ ?_; (· (simp [hnt, Try.ntmps55, Try.results55, anW2555, hl, hb, symBad]; done)); (try (rotate_left; (· (intro hc; (try simp [hnt, Try.ntmps55, Try.results55, anW2555, hl, hb, symBad] at hc); done))))))
      | (refine DW_ret ?_; simp [hnt, Try.ntmps55, Try.results55, anW2555, hl, hb, symBad])
      | (refine DW_exit ?_; simp [hnt, Try.ntmps55, Try.results55, anW2555, hl, hb, symBad])
      | (refine DW_skip ?_; simp [hnt, Try.ntmps55, Try.results55, anW2555, hl, hb, symBad])
      | (intro hc; (try simp [hnt, Try.ntmps55, Try.results55, anW2555, hl, hb, symBad] at hc); done)
      | (intro hc; (try simp [hnt, Try.ntmps55, Try.results55, anW2555, hl, hb, symBad] at hc); (first | (exfalso; omega) | skip))
      | (refine callP_mk (check1_pure c s.n) ?_; try simp [hnt, Try.ntmps55, Try.results55, anW2555, hl, hb, symBad])
      | (refine callP_wk (check1_pure c s.n) ?_ ?_; (· (simp; done)); try simp [hnt, Try.ntmps55, Try.results55, anW2555, hl, hb, symBad])
      | (refine ⟨?_, ?_⟩; · omega)
      | omega
      | apply_assumption -exfalso -symm
      | (exfalso; omega)))
  · by_cases h1 : s.n < 0 <;> by_cases h2 : 16 ≤ s.n <;> (repeat (first
      | (refine DW_seq fun K hK => ?_)
      | (refine DW_r anW2555 Try.mixed (by kernel_rfl) ?_; simp [hnt, Try.ntmps55, Try.results55, anW2555, hl, h1, h2, symBad]; try simp (disch := omega) only [wrap64_in])
      | (refine DW_block ?_)
      | (focus (refine DW_if ?_ ?_ ?_; (· (simp [hnt, Try.ntmps55, Try.results55, anW2555, hl, h1, h2, symBad]; done)); (try (rotate_left; (· (intro hc; (try simp [hnt, Try.ntmps55, Try.results55, anW2555, hl, h1, h2, symBad] at hc); done))))))
      | (refine DW_ret ?_; simp [hnt, Try.ntmps55, Try.results55, anW2555, hl, h1, h2, symBad])
      | (refine DW_exit ?_; simp [hnt, Try.ntmps55, Try.results55, anW2555, hl, h1, h2, symBad])
      | (refine DW_skip ?_; simp [hnt, Try.ntmps55, Try.results55, anW2555, hl, h1, h2, symBad])
      | (intro hc; (try simp [hnt, Try.ntmps55, Try.results55, anW2555, hl, h1, h2, symBad] at hc); done)
      | (intro hc; (try simp [hnt, Try.ntmps55, Try.results55, anW2555, hl, h1, h2, symBad] at hc); (first | (exfalso; omega) | skip))
      | (refine callP_mk (check1_pure c s.n) ?_; try simp [hnt, Try.ntmps55, Try.results55, anW2555, hl, h1, h2, symBad])
      | (refine callP_wk (check1_pure c s.n) ?_ ?_; (· (simp; done)); try simp [hnt, Try.ntmps55, Try.results55, anW2555, hl, h1, h2, symBad])
      | (refine ⟨?_, ?_⟩; · omega)
      | omega
      | apply_assumption -exfalso -symm
      | (exfalso; omega)))

def anW2525 : Ann := ⟨[], [⟨1, [3], [], []⟩, ⟨5, [6], [], []⟩]⟩
set_option maxHeartbeats 4000000 in
theorem check_pure (c : Cnf) : DPure Try.prog 25 [.agg (dCnf c)] (.int .i64 (if cnfOK c then 0 else 220)) := by
  refine DPure_introF [] (fn := Try.f25) Try.func25 rfl Try.call25 (by simp [Try.ntmps25]) (by simp [mx]) ?_
  intro hwf B hnt
  have hw : wCnf c := w_cnf (by simpa [wfL, wfD] using hwf.1)
  obtain ⟨hw1, hw2, hw3, hw4⟩ := hw
  clear hwf hw1
  simp only [argS]
  have hstep : ∀ k, (hk : k < c.prods.length) → (c.prods.take (k + 1)).all (prodOK c) = ((c.prods.take k).all (prodOK c) && prodOK c c.prods[k]) := by
    intro k hk
    rw [List.take_succ_eq_append_getElem hk, List.all_append]; simp
  obtain ⟨b0, hb0⟩ : ∃ b0 : Bool, b0 = (decide (1 ≤ c.nts) && decide (c.nts ≤ 1024)) := ⟨_, rfl⟩
  have hfin : cnfOK c = (b0 && c.prods.all (prodOK c)) := by rw [hb0]; rfl
  by_cases h1 : 1 ≤ c.nts <;> by_cases h2 : c.nts ≤ 1024 <;> simp only [h1, h2, decide_true, decide_false, Bool.and_true, Bool.and_false] at hb0 <;> (repeat (first
      | (refine DW_seq fun K hK => ?_)
      | (refine DW_r anW2525 Try.mixed (by kernel_rfl) ?_; simp [hnt, Try.ntmps25, Try.results25, anW2525, dCnf, h1, h2]; try simp (disch := omega) only [wrap64_in])
      | (refine DW_block ?_)
      | (focus (refine DW_if ?_ ?_ ?_; (· (simp [hnt, Try.ntmps25, Try.results25, anW2525, dCnf, h1, h2]; done)); (try (rotate_left; (· (intro hc; (try simp [hnt, Try.ntmps25, Try.results25, anW2525, dCnf, h1, h2] at hc); done))))))
      | (refine DW_ret ?_; simp [hnt, Try.ntmps25, Try.results25, anW2525, dCnf, h1, h2])
      | (refine DW_exit ?_; simp [hnt, Try.ntmps25, Try.results25, anW2525, dCnf, h1, h2])
      | (refine DW_skip ?_; simp [hnt, Try.ntmps25, Try.results25, anW2525, dCnf, h1, h2])
      | (intro hc; (try simp [hnt, Try.ntmps25, Try.results25, anW2525, dCnf, h1, h2] at hc); done)
      | (intro hc; (try simp [hnt, Try.ntmps25, Try.results25, anW2525, dCnf, h1, h2] at hc); (first | (exfalso; omega) | skip))
      | (refine ⟨?_, ?_⟩; · omega)
      | omega
      | apply_assumption -exfalso -symm
      | (exfalso; omega)))
  all_goals
    refine DW_loop (X := {k : Nat // k ≤ c.prods.length}) (fun k => ⟨[(1, .ref [.int .i64 c.nts, dProds c.prods]), (3, .ref [dNt c]), (4, .bool (b0 && (c.prods.take k.1).all (prodOK c))), (17, dProds c.prods), (18, .int .i64 c.prods.length), (19, .int .i64 k.1)], []⟩) (fun k => c.prods.length - k.1) ⟨0, by simp⟩ (Sub.lit (by simp [hb0])) ?_
    rintro ⟨k, hk⟩
    by_cases hlt : k < c.prods.length
    · obtain ⟨p, hp, hp', hpm⟩ := at_lt' hlt
      have hst := hstep k hlt
      rw [hp'] at hst
      obtain ⟨b, hb⟩ : ∃ b : Bool, b = (b0 && (c.prods.take k).all (prodOK c)) := ⟨_, rfl⟩
      have hb1 : (b0 && (c.prods.take (k + 1)).all (prodOK c)) = (b && prodOK c p) := by rw [hst, hb, Bool.and_assoc]
      have hq := containsFunc54_pure 55 [] [.ref [dNt c]] p.body (symBad c) (fun x _ => check2_pure c x)
      simp only [← hb]
      cases b
      · (repeat (first
          | (refine DW_seq fun K hK => ?_)
          | (refine DW_r anW2525 Try.mixed (by kernel_rfl) ?_; simp [hnt, Try.ntmps25, Try.results25, anW2525, dCnf, dProd, hlt, hp', hb1]; try simp (disch := omega) only [wrap64_in])
          | (refine DW_block ?_)
          | (focus (refine DW_if ?_ ?_ ?_; (· (simp [hnt, Try.ntmps25, Try.results25, anW2525, dCnf, dProd, hlt, hp', hb1]; done)); (try (rotate_left; (· (intro hc; (try simp [hnt, Try.ntmps25, Try.results25, anW2525, dCnf, dProd, hlt, hp', hb1] at hc); done))))))
          | (refine DW_ret ?_; simp [hnt, Try.ntmps25, Try.results25, anW2525, dCnf, dProd, hlt, hp', hb1])
          | (refine DW_exit ?_; simp [hnt, Try.ntmps25, Try.results25, anW2525, dCnf, dProd, hlt, hp', hb1])
          | (refine DW_skip ?_; simp [hnt, Try.ntmps25, Try.results25, anW2525, dCnf, dProd, hlt, hp', hb1])
          | (intro hc; (try simp [hnt, Try.ntmps25, Try.results25, anW2525, dCnf, dProd, hlt, hp', hb1] at hc); done)
          | (intro hc; (try simp [hnt, Try.ntmps25, Try.results25, anW2525, dCnf, dProd, hlt, hp', hb1] at hc); (first | (exfalso; omega) | skip))
          | (refine callP_mk (check1_pure c p.head) ?_; try simp [hnt, Try.ntmps25, Try.results25, anW2525, dCnf, dProd, hlt, hp', hb1])
          | (refine callP_wk (check1_pure c p.head) ?_ ?_; (· (simp; done)); try simp [hnt, Try.ntmps25, Try.results25, anW2525, dCnf, dProd, hlt, hp', hb1])
          | (refine callP_mk (hq) ?_; try simp [hnt, Try.ntmps25, Try.results25, anW2525, dCnf, dProd, hlt, hp', hb1])
          | (refine callP_wk (hq) ?_ ?_; (· (simp; done)); try simp [hnt, Try.ntmps25, Try.results25, anW2525, dCnf, dProd, hlt, hp', hb1])
          | (refine ⟨?_, ?_⟩; · omega)
          | omega
          | apply_assumption -exfalso -symm
          | (exfalso; omega)))
        refine Again.mk ⟨k + 1, by omega⟩ (Sub.lit (by simp [hb1])) (by simp; omega)
        (repeat (first
            | (refine DW_seq fun K hK => ?_)
            | (refine DW_r anW2525 Try.mixed (by kernel_rfl) ?_; simp [hnt, Try.ntmps25, Try.results25, anW2525]; try simp (disch := omega) only [wrap64_in])
            | (refine DW_block ?_)
            | (focus (refine DW_if ?_ ?_ ?_; (· (simp [hnt, Try.ntmps25, Try.results25, anW2525]; done)); (try (rotate_left; (· (intro hc; (try simp [hnt, Try.ntmps25, Try.results25, anW2525] at hc); done))))))
            | (refine DW_ret ?_; simp [hnt, Try.ntmps25, Try.results25, anW2525])
            | (refine DW_exit ?_; simp [hnt, Try.ntmps25, Try.results25, anW2525])
            | (refine DW_skip ?_; simp [hnt, Try.ntmps25, Try.results25, anW2525])
            | (intro hc; (try simp [hnt, Try.ntmps25, Try.results25, anW2525] at hc); done)
            | (intro hc; (try simp [hnt, Try.ntmps25, Try.results25, anW2525] at hc); (first | (exfalso; omega) | skip))
            | (refine callP_mk (check1_pure c p.head) ?_; try simp [hnt, Try.ntmps25, Try.results25, anW2525])
            | (refine callP_wk (check1_pure c p.head) ?_ ?_; (· (simp; done)); try simp [hnt, Try.ntmps25, Try.results25, anW2525])
            | (refine callP_mk (hq) ?_; try simp [hnt, Try.ntmps25, Try.results25, anW2525])
            | (refine callP_wk (hq) ?_ ?_; (· (simp; done)); try simp [hnt, Try.ntmps25, Try.results25, anW2525])
            | (refine ⟨?_, ?_⟩; · omega)
            | omega
            | apply_assumption -exfalso -symm
            | (exfalso; omega)))
      · cases hn : ntOK c p.head
        · (repeat (first
            | (refine DW_seq fun K hK => ?_)
            | (refine DW_r anW2525 Try.mixed (by kernel_rfl) ?_; simp [hnt, Try.ntmps25, Try.results25, anW2525, dCnf, dProd, hlt, hp', hb1, hn]; try simp (disch := omega) only [wrap64_in])
            | (refine DW_block ?_)
            | (focus (refine DW_if ?_ ?_ ?_; (· (simp [hnt, Try.ntmps25, Try.results25, anW2525, dCnf, dProd, hlt, hp', hb1, hn]; done)); (try (rotate_left; (· (intro hc; (try simp [hnt, Try.ntmps25, Try.results25, anW2525, dCnf, dProd, hlt, hp', hb1, hn] at hc); done))))))
            | (refine DW_ret ?_; simp [hnt, Try.ntmps25, Try.results25, anW2525, dCnf, dProd, hlt, hp', hb1, hn])
            | (refine DW_exit ?_; simp [hnt, Try.ntmps25, Try.results25, anW2525, dCnf, dProd, hlt, hp', hb1, hn])
            | (refine DW_skip ?_; simp [hnt, Try.ntmps25, Try.results25, anW2525, dCnf, dProd, hlt, hp', hb1, hn])
            | (intro hc; (try simp [hnt, Try.ntmps25, Try.results25, anW2525, dCnf, dProd, hlt, hp', hb1, hn] at hc); done)
            | (intro hc; (try simp [hnt, Try.ntmps25, Try.results25, anW2525, dCnf, dProd, hlt, hp', hb1, hn] at hc); (first | (exfalso; omega) | skip))
            | (refine callP_mk (check1_pure c p.head) ?_; try simp [hnt, Try.ntmps25, Try.results25, anW2525, dCnf, dProd, hlt, hp', hb1, hn])
            | (refine callP_wk (check1_pure c p.head) ?_ ?_; (· (simp; done)); try simp [hnt, Try.ntmps25, Try.results25, anW2525, dCnf, dProd, hlt, hp', hb1, hn])
            | (refine callP_mk (hq) ?_; try simp [hnt, Try.ntmps25, Try.results25, anW2525, dCnf, dProd, hlt, hp', hb1, hn])
            | (refine callP_wk (hq) ?_ ?_; (· (simp; done)); try simp [hnt, Try.ntmps25, Try.results25, anW2525, dCnf, dProd, hlt, hp', hb1, hn])
            | (refine ⟨?_, ?_⟩; · omega)
            | omega
            | apply_assumption -exfalso -symm
            | (exfalso; omega)))
          refine Again.mk ⟨k + 1, by omega⟩ (Sub.lit (by simp [hb1, prodOK, hn])) (by simp; omega)
          (repeat (first
              | (refine DW_seq fun K hK => ?_)
              | (refine DW_r anW2525 Try.mixed (by kernel_rfl) ?_; simp [hnt, Try.ntmps25, Try.results25, anW2525]; try simp (disch := omega) only [wrap64_in])
              | (refine DW_block ?_)
              | (focus (refine DW_if ?_ ?_ ?_; (· (simp [hnt, Try.ntmps25, Try.results25, anW2525]; done)); (try (rotate_left; (· (intro hc; (try simp [hnt, Try.ntmps25, Try.results25, anW2525] at hc); done))))))
              | (refine DW_ret ?_; simp [hnt, Try.ntmps25, Try.results25, anW2525])
              | (refine DW_exit ?_; simp [hnt, Try.ntmps25, Try.results25, anW2525])
              | (refine DW_skip ?_; simp [hnt, Try.ntmps25, Try.results25, anW2525])
              | (intro hc; (try simp [hnt, Try.ntmps25, Try.results25, anW2525] at hc); done)
              | (intro hc; (try simp [hnt, Try.ntmps25, Try.results25, anW2525] at hc); (first | (exfalso; omega) | skip))
              | (refine callP_mk (check1_pure c p.head) ?_; try simp [hnt, Try.ntmps25, Try.results25, anW2525])
              | (refine callP_wk (check1_pure c p.head) ?_ ?_; (· (simp; done)); try simp [hnt, Try.ntmps25, Try.results25, anW2525])
              | (refine callP_mk (hq) ?_; try simp [hnt, Try.ntmps25, Try.results25, anW2525])
              | (refine callP_wk (hq) ?_ ?_; (· (simp; done)); try simp [hnt, Try.ntmps25, Try.results25, anW2525])
              | (refine ⟨?_, ?_⟩; · omega)
              | omega
              | apply_assumption -exfalso -symm
              | (exfalso; omega)))
        · cases ha : p.body.any (symBad c)
          · rw [ha] at hq
            (repeat (first
                | (refine DW_seq fun K hK => ?_)
                | (refine DW_r anW2525 Try.mixed (by kernel_rfl) ?_; simp [hnt, Try.ntmps25, Try.results25, anW2525, dCnf, dProd, hlt, hp', hb1, hn, ha]; try simp (disch := omega) only [wrap64_in])
                | (refine DW_block ?_)
                | (focus (refine DW_if ?_ ?_ ?_; (· (simp [hnt, Try.ntmps25, Try.results25, anW2525, dCnf, dProd, hlt, hp', hb1, hn, ha]; done)); (try (rotate_left; (· (intro hc; (try simp [hnt, Try.ntmps25, Try.results25, anW2525, dCnf, dProd, hlt, hp', hb1, hn, ha] at hc); done))))))
                | (refine DW_ret ?_; simp [hnt, Try.ntmps25, Try.results25, anW2525, dCnf, dProd, hlt, hp', hb1, hn, ha])
                | (refine DW_exit ?_; simp [hnt, Try.ntmps25, Try.results25, anW2525, dCnf, dProd, hlt, hp', hb1, hn, ha])
                | (refine DW_skip ?_; simp [hnt, Try.ntmps25, Try.results25, anW2525, dCnf, dProd, hlt, hp', hb1, hn, ha])
                | (intro hc; (try simp [hnt, Try.ntmps25, Try.results25, anW2525, dCnf, dProd, hlt, hp', hb1, hn, ha] at hc); done)
                | (intro hc; (try simp [hnt, Try.ntmps25, Try.results25, anW2525, dCnf, dProd, hlt, hp', hb1, hn, ha] at hc); (first | (exfalso; omega) | skip))
                | (refine callP_mk (check1_pure c p.head) ?_; try simp [hnt, Try.ntmps25, Try.results25, anW2525, dCnf, dProd, hlt, hp', hb1, hn, ha])
                | (refine callP_wk (check1_pure c p.head) ?_ ?_; (· (simp; done)); try simp [hnt, Try.ntmps25, Try.results25, anW2525, dCnf, dProd, hlt, hp', hb1, hn, ha])
                | (refine callP_mk (hq) ?_; try simp [hnt, Try.ntmps25, Try.results25, anW2525, dCnf, dProd, hlt, hp', hb1, hn, ha])
                | (refine callP_wk (hq) ?_ ?_; (· (simp; done)); try simp [hnt, Try.ntmps25, Try.results25, anW2525, dCnf, dProd, hlt, hp', hb1, hn, ha])
                | (refine ⟨?_, ?_⟩; · omega)
                | omega
                | apply_assumption -exfalso -symm
                | (exfalso; omega)))
            refine Again.mk ⟨k + 1, by omega⟩ (Sub.lit (by simp [hb1, prodOK, hn, ha])) (by simp; omega)
            (repeat (first
                | (refine DW_seq fun K hK => ?_)
                | (refine DW_r anW2525 Try.mixed (by kernel_rfl) ?_; simp [hnt, Try.ntmps25, Try.results25, anW2525]; try simp (disch := omega) only [wrap64_in])
                | (refine DW_block ?_)
                | (focus (refine DW_if ?_ ?_ ?_; (· (simp [hnt, Try.ntmps25, Try.results25, anW2525]; done)); (try (rotate_left; (· (intro hc; (try simp [hnt, Try.ntmps25, Try.results25, anW2525] at hc); done))))))
                | (refine DW_ret ?_; simp [hnt, Try.ntmps25, Try.results25, anW2525])
                | (refine DW_exit ?_; simp [hnt, Try.ntmps25, Try.results25, anW2525])
                | (refine DW_skip ?_; simp [hnt, Try.ntmps25, Try.results25, anW2525])
                | (intro hc; (try simp [hnt, Try.ntmps25, Try.results25, anW2525] at hc); done)
                | (intro hc; (try simp [hnt, Try.ntmps25, Try.results25, anW2525] at hc); (first | (exfalso; omega) | skip))
                | (refine callP_mk (check1_pure c p.head) ?_; try simp [hnt, Try.ntmps25, Try.results25, anW2525])
                | (refine callP_wk (check1_pure c p.head) ?_ ?_; (· (simp; done)); try simp [hnt, Try.ntmps25, Try.results25, anW2525])
                | (refine callP_mk (hq) ?_; try simp [hnt, Try.ntmps25, Try.results25, anW2525])
                | (refine callP_wk (hq) ?_ ?_; (· (simp; done)); try simp [hnt, Try.ntmps25, Try.results25, anW2525])
                | (refine ⟨?_, ?_⟩; · omega)
                | omega
                | apply_assumption -exfalso -symm
                | (exfalso; omega)))
          · rw [ha] at hq
            (repeat (first
                | (refine DW_seq fun K hK => ?_)
                | (refine DW_r anW2525 Try.mixed (by kernel_rfl) ?_; simp [hnt, Try.ntmps25, Try.results25, anW2525, dCnf, dProd, hlt, hp', hb1, hn, ha]; try simp (disch := omega) only [wrap64_in])
                | (refine DW_block ?_)
                | (focus (refine DW_if ?_ ?_ ?_; (· (simp [hnt, Try.ntmps25, Try.results25, anW2525, dCnf, dProd, hlt, hp', hb1, hn, ha]; done)); (try (rotate_left; (· (intro hc; (try simp [hnt, Try.ntmps25, Try.results25, anW2525, dCnf, dProd, hlt, hp', hb1, hn, ha] at hc); done))))))
                | (refine DW_ret ?_; simp [hnt, Try.ntmps25, Try.results25, anW2525, dCnf, dProd, hlt, hp', hb1, hn, ha])
                | (refine DW_exit ?_; simp [hnt, Try.ntmps25, Try.results25, anW2525, dCnf, dProd, hlt, hp', hb1, hn, ha])
                | (refine DW_skip ?_; simp [hnt, Try.ntmps25, Try.results25, anW2525, dCnf, dProd, hlt, hp', hb1, hn, ha])
                | (intro hc; (try simp [hnt, Try.ntmps25, Try.results25, anW2525, dCnf, dProd, hlt, hp', hb1, hn, ha] at hc); done)
                | (intro hc; (try simp [hnt, Try.ntmps25, Try.results25, anW2525, dCnf, dProd, hlt, hp', hb1, hn, ha] at hc); (first | (exfalso; omega) | skip))
                | (refine callP_mk (check1_pure c p.head) ?_; try simp [hnt, Try.ntmps25, Try.results25, anW2525, dCnf, dProd, hlt, hp', hb1, hn, ha])
                | (refine callP_wk (check1_pure c p.head) ?_ ?_; (· (simp; done)); try simp [hnt, Try.ntmps25, Try.results25, anW2525, dCnf, dProd, hlt, hp', hb1, hn, ha])
                | (refine callP_mk (hq) ?_; try simp [hnt, Try.ntmps25, Try.results25, anW2525, dCnf, dProd, hlt, hp', hb1, hn, ha])
                | (refine callP_wk (hq) ?_ ?_; (· (simp; done)); try simp [hnt, Try.ntmps25, Try.results25, anW2525, dCnf, dProd, hlt, hp', hb1, hn, ha])
                | (refine ⟨?_, ?_⟩; · omega)
                | omega
                | apply_assumption -exfalso -symm
                | (exfalso; omega)))
            refine Again.mk ⟨k + 1, by omega⟩ (Sub.lit (by simp [hb1, prodOK, hn, ha])) (by simp; omega)
            (repeat (first
                | (refine DW_seq fun K hK => ?_)
                | (refine DW_r anW2525 Try.mixed (by kernel_rfl) ?_; simp [hnt, Try.ntmps25, Try.results25, anW2525]; try simp (disch := omega) only [wrap64_in])
                | (refine DW_block ?_)
                | (focus (refine DW_if ?_ ?_ ?_; (· (simp [hnt, Try.ntmps25, Try.results25, anW2525]; done)); (try (rotate_left; (· (intro hc; (try simp [hnt, Try.ntmps25, Try.results25, anW2525] at hc); done))))))
                | (refine DW_ret ?_; simp [hnt, Try.ntmps25, Try.results25, anW2525])
                | (refine DW_exit ?_; simp [hnt, Try.ntmps25, Try.results25, anW2525])
                | (refine DW_skip ?_; simp [hnt, Try.ntmps25, Try.results25, anW2525])
                | (intro hc; (try simp [hnt, Try.ntmps25, Try.results25, anW2525] at hc); done)
                | (intro hc; (try simp [hnt, Try.ntmps25, Try.results25, anW2525] at hc); (first | (exfalso; omega) | skip))
                | (refine callP_mk (check1_pure c p.head) ?_; try simp [hnt, Try.ntmps25, Try.results25, anW2525])
                | (refine callP_wk (check1_pure c p.head) ?_ ?_; (· (simp; done)); try simp [hnt, Try.ntmps25, Try.results25, anW2525])
                | (refine callP_mk (hq) ?_; try simp [hnt, Try.ntmps25, Try.results25, anW2525])
                | (refine callP_wk (hq) ?_ ?_; (· (simp; done)); try simp [hnt, Try.ntmps25, Try.results25, anW2525])
                | (refine ⟨?_, ?_⟩; · omega)
                | omega
                | apply_assumption -exfalso -symm
                | (exfalso; omega)))
    · have hkk : k = c.prods.length := by omega
      subst hkk
      rw [List.take_length] at *
      cases hcn : cnfOK c <;> rw [hcn] at hfin <;> (repeat (first
          | (refine DW_seq fun K hK => ?_)
          | (refine DW_r anW2525 Try.mixed (by kernel_rfl) ?_; simp [hnt, Try.ntmps25, Try.results25, anW2525, dCnf, hcn, ← hfin]; try simp (disch := omega) only [wrap64_in])
          | (refine DW_block ?_)
          | (focus (refine DW_if ?_ ?_ ?_; (· (simp [hnt, Try.ntmps25, Try.results25, anW2525, dCnf, hcn, ← hfin]; done)); (try (rotate_left; (· (intro hc; (try simp [hnt, Try.ntmps25, Try.results25, anW2525, dCnf, hcn, ← hfin] at hc); done))))))
          | (refine DW_ret ?_; simp [hnt, Try.ntmps25, Try.results25, anW2525, dCnf, hcn, ← hfin])
          | (refine DW_exit ?_; simp [hnt, Try.ntmps25, Try.results25, anW2525, dCnf, hcn, ← hfin])
          | (refine DW_skip ?_; simp [hnt, Try.ntmps25, Try.results25, anW2525, dCnf, hcn, ← hfin])
          | (intro hc; (try simp [hnt, Try.ntmps25, Try.results25, anW2525, dCnf, hcn, ← hfin] at hc); done)
          | (intro hc; (try simp [hnt, Try.ntmps25, Try.results25, anW2525, dCnf, hcn, ← hfin] at hc); (first | (exfalso; omega) | skip))
          | (refine ⟨?_, ?_⟩; · omega)
          | omega
          | apply_assumption -exfalso -symm
          | (exfalso; omega)))
end Go.Proofs.Ytihkcegelghcpaa
end

section
/- A part of a proof: walks over the functions that it names; their contracts hold for every argument. -/

set_option linter.unusedSimpArgs false
set_option linter.unusedVariables false
namespace Go.Proofs.Ytihkcegelghcpaa
open Go Go.Dm
attribute [local irreducible] DW callP callS
set_option maxRecDepth 100000

def cmpI (a b : Int) : Int := if a < b then -1 else if b < a then 1 else 0
/-- slices.CompareFunc -/
def cmpL {α : Type} (c : α → α → Int) : List α → List α → Int
  | [], [] => 0
  | [], _ :: _ => -1
  | _ :: _, [] => 1
  | x :: a, y :: b => if c x y = 0 then cmpL c a b else c x y
theorem cmpL_at {α : Type} {c : α → α → Int} {a b : List α} {k : Nat} {x y : α} (hx : a[k]? = some x) (hy : b[k]? = some y) : cmpL c (a.drop k) (b.drop k) = if c x y = 0 then cmpL c (a.drop (k + 1)) (b.drop (k + 1)) else c x y := by
  obtain ⟨h1, rfl⟩ := List.getElem?_eq_some_iff.1 hx
  obtain ⟨h2, rfl⟩ := List.getElem?_eq_some_iff.1 hy
  rw [List.drop_eq_getElem_cons h1, List.drop_eq_getElem_cons h2, cmpL]
theorem cmpL_gt {α : Type} {c : α → α → Int} {a b : List α} {k : Nat} (h1 : k < a.length) (h2 : b.length ≤ k) : cmpL c (a.drop k) (b.drop k) = 1 := by
  rw [List.drop_eq_getElem_cons h1, List.drop_of_length_le h2, cmpL]
theorem cmpL_le {α : Type} {c : α → α → Int} {a b : List α} {k : Nat} (h1 : a.length ≤ k) : cmpL c (a.drop k) (b.drop k) = if k < b.length then -1 else 0 := by
  rw [List.drop_of_length_le h1]
  split
  · rename_i h; rw [List.drop_eq_getElem_cons h, cmpL]
  · rename_i h; rw [List.drop_of_length_le (by omega), cmpL]

def anW97170 : Ann := ⟨[], []⟩
theorem isNaN_pure (n : Int) : DPure Try.prog 170 [.int .i64 n] (.bool false) := by
  refine DPure_introF [] (fn := Try.f170) Try.func170 rfl Try.call170 (by simp [Try.ntmps170]) (by simp [mx]) ?_
  intro hwf B hnt
  simp only [argS]
  (repeat (first
      | (refine DW_seq fun K hK => ?_)
      | (refine DW_r anW97170 Try.mixed (by kernel_rfl) ?_; simp [hnt, Try.ntmps170, Try.results170, anW97170]; try simp (disch := omega) only [wrap64_in])
      | (refine DW_block ?_)
      | (focus (refine DW_if ?_ ?_ ?_; (· (simp [hnt, Try.ntmps170, Try.results170, anW97170]; done)); (try (rotate_left; (· (intro hc; (try simp [hnt, Try.ntmps170, Try.results170, anW97170] at hc); done))))))
      | (refine DW_ret ?_; simp [hnt, Try.ntmps170, Try.results170, anW97170])
      | (refine DW_exit ?_; simp [hnt, Try.ntmps170, Try.results170, anW97170])
      | (refine DW_skip ?_; simp [hnt, Try.ntmps170, Try.results170, anW97170])
      | (intro hc; (try simp [hnt, Try.ntmps170, Try.results170, anW97170] at hc); done)
      | (intro hc; (try simp [hnt, Try.ntmps170, Try.results170, anW97170] at hc); (first | (exfalso; omega) | skip))
      | (refine ⟨?_, ?_⟩; · omega)
      | omega
      | apply_assumption -exfalso -symm
      | (exfalso; omega)))
def anW97127 : Ann := ⟨[], []⟩
theorem cmpInt_pure (a b : Int) : DPure Try.prog 127 [.int .i64 a, .int .i64 b] (.int .i64 (cmpI a b)) := by
  refine DPure_introF [] (fn := Try.f127) Try.func127 rfl Try.call127 (by simp [Try.ntmps127]) (by simp [mx]) ?_
  intro hwf B hnt
  simp only [argS]
  by_cases h1 : a < b
  · (repeat (first
      | (refine DW_seq fun K hK => ?_)
      | (refine DW_r anW97127 Try.mixed (by kernel_rfl) ?_; simp [hnt, Try.ntmps127, Try.results127, anW97127, h1, cmpI]; try simp (disch := omega) only [wrap64_in])
      | (refine DW_block ?_)
      | (focus (refine DW_if ?_ ?_ ?_; (· (simp [hnt, Try.ntmps127, Try.results127, anW97127, h1, cmpI]; done)); (try (rotate_left; (· (intro hc; (try simp [hnt, Try.ntmps127, Try.results127, anW97127, h1, cmpI] at hc); done))))))
      | (refine DW_ret ?_; simp [hnt, Try.ntmps127, Try.results127, anW97127, h1, cmpI])
      | (refine DW_exit ?_; simp [hnt, Try.ntmps127, Try.results127, anW97127, h1, cmpI])
      | (refine DW_skip ?_; simp [hnt, Try.ntmps127, Try.results127, anW97127, h1, cmpI])
      | (intro hc; (try simp [hnt, Try.ntmps127, Try.results127, anW97127, h1, cmpI] at hc); done)
      | (intro hc; (try simp [hnt, Try.ntmps127, Try.results127, anW97127, h1, cmpI] at hc); (first | (exfalso; omega) | skip))
      | (refine callP_mk (isNaN_pure a) ?_; try simp [hnt, Try.ntmps127, Try.results127, anW97127, h1, cmpI])
      | (refine callP_wk (isNaN_pure a) ?_ ?_; (· (simp; done)); try simp [hnt, Try.ntmps127, Try.results127, anW97127, h1, cmpI])
      | (refine callP_mk (isNaN_pure b) ?_; try simp [hnt, Try.ntmps127, Try.results127, anW97127, h1, cmpI])
      | (refine callP_wk (isNaN_pure b) ?_ ?_; (· (simp; done)); try simp [hnt, Try.ntmps127, Try.results127, anW97127, h1, cmpI])
      | (refine ⟨?_, ?_⟩; · omega)
      | omega
      | apply_assumption -exfalso -symm
      | (exfalso; omega)))
  · by_cases h2 : b < a
    · (repeat (first
        | (refine DW_seq fun K hK => ?_)
        | (refine DW_r anW97127 Try.mixed (by kernel_rfl) ?_; simp [hnt, Try.ntmps127, Try.results127, anW97127, h1, h2, cmpI]; try simp (disch := omega) only [wrap64_in])
        | (refine DW_block ?_)
        | (focus (refine DW_if ?_ ?_ ?_; (· (simp [hnt, Try.ntmps127, Try.results127, anW97127, h1, h2, cmpI]; done)); (try (rotate_left; (· (intro hc; (try simp [hnt, Try.ntmps127, Try.results127, anW97127, h1, h2, cmpI] at hc); done))))))
        | (refine DW_ret ?_; simp [hnt, Try.ntmps127, Try.results127, anW97127, h1, h2, cmpI])
        | (refine DW_exit ?_; simp [hnt, Try.ntmps127, Try.results127, anW97127, h1, h2, cmpI])
        | (refine DW_skip ?_; simp [hnt, Try.ntmps127, Try.results127, anW97127, h1, h2, cmpI])
        | (intro hc; (try simp [hnt, Try.ntmps127, Try.results127, anW97127, h1, h2, cmpI] at hc); done)
        | (intro hc; (try simp [hnt, Try.ntmps127, Try.results127, anW97127, h1, h2, cmpI] at hc); (first | (exfalso; omega) | skip))
        | (refine callP_mk (isNaN_pure a) ?_; try simp [hnt, Try.ntmps127, Try.results127, anW97127, h1, h2, cmpI])
        | (refine callP_wk (isNaN_pure a) ?_ ?_; (· (simp; done)); try simp [hnt, Try.ntmps127, Try.results127, anW97127, h1, h2, cmpI])
        | (refine callP_mk (isNaN_pure b) ?_; try simp [hnt, Try.ntmps127, Try.results127, anW97127, h1, h2, cmpI])
        | (refine callP_wk (isNaN_pure b) ?_ ?_; (· (simp; done)); try simp [hnt, Try.ntmps127, Try.results127, anW97127, h1, h2, cmpI])
        | (refine ⟨?_, ?_⟩; · omega)
        | omega
        | apply_assumption -exfalso -symm
        | (exfalso; omega)))
    · (repeat (first
        | (refine DW_seq fun K hK => ?_)
        | (refine DW_r anW97127 Try.mixed (by kernel_rfl) ?_; simp [hnt, Try.ntmps127, Try.results127, anW97127, h1, h2, cmpI]; try simp (disch := omega) only [wrap64_in])
        | (refine DW_block ?_)
        | (focus (refine DW_if ?_ ?_ ?_; (· (simp [hnt, Try.ntmps127, Try.results127, anW97127, h1, h2, cmpI]; done)); (try (rotate_left; (· (intro hc; (try simp [hnt, Try.ntmps127, Try.results127, anW97127, h1, h2, cmpI] at hc); done))))))
        | (refine DW_ret ?_; simp [hnt, Try.ntmps127, Try.results127, anW97127, h1, h2, cmpI])
        | (refine DW_exit ?_; simp [hnt, Try.ntmps127, Try.results127, anW97127, h1, h2, cmpI])
        | (refine DW_skip ?_; simp [hnt, Try.ntmps127, Try.results127, anW97127, h1, h2, cmpI])
        | (intro hc; (try simp [hnt, Try.ntmps127, Try.results127, anW97127, h1, h2, cmpI] at hc); done)
        | (intro hc; (try simp [hnt, Try.ntmps127, Try.results127, anW97127, h1, h2, cmpI] at hc); (first | (exfalso; omega) | skip))
        | (refine callP_mk (isNaN_pure a) ?_; try simp [hnt, Try.ntmps127, Try.results127, anW97127, h1, h2, cmpI])
        | (refine callP_wk (isNaN_pure a) ?_ ?_; (· (simp; done)); try simp [hnt, Try.ntmps127, Try.results127, anW97127, h1, h2, cmpI])
        | (refine callP_mk (isNaN_pure b) ?_; try simp [hnt, Try.ntmps127, Try.results127, anW97127, h1, h2, cmpI])
        | (refine callP_wk (isNaN_pure b) ?_ ?_; (· (simp; done)); try simp [hnt, Try.ntmps127, Try.results127, anW97127, h1, h2, cmpI])
        | (refine ⟨?_, ?_⟩; · omega)
        | omega
        | apply_assumption -exfalso -symm
        | (exfalso; omega)))

def orI : List Int → Int
  | [] => 0
  | x :: l => if x = 0 then orI l else x
def anW97126 : Ann := ⟨[], []⟩
theorem or3_pure (a b c : Int) : DPure Try.prog 126 [.sl 1 8 [[.int .i64 a], [.int .i64 b], [.int .i64 c]]] (.int .i64 (if a = 0 then (if b = 0 then c else b) else a)) := by
  refine DPure_introF [] (fn := Try.f126) Try.func126 rfl Try.call126 (by simp [Try.ntmps126]) (by simp [mx]) ?_
  intro hwf B hnt
  simp only [argS]
  (repeat (first
      | (refine DW_seq fun K hK => ?_)
      | (refine DW_r anW97126 Try.mixed (by kernel_rfl) ?_; simp [hnt, Try.ntmps126, Try.results126, anW97126]; try simp (disch := omega) only [wrap64_in])
      | (refine DW_block ?_)
      | (focus (refine DW_if ?_ ?_ ?_; (· (simp [hnt, Try.ntmps126, Try.results126, anW97126]; done)); (try (rotate_left; (· (intro hc; (try simp [hnt, Try.ntmps126, Try.results126, anW97126] at hc); done))))))
      | (refine DW_ret ?_; simp [hnt, Try.ntmps126, Try.results126, anW97126])
      | (refine DW_exit ?_; simp [hnt, Try.ntmps126, Try.results126, anW97126])
      | (refine DW_skip ?_; simp [hnt, Try.ntmps126, Try.results126, anW97126])
      | (intro hc; (try simp [hnt, Try.ntmps126, Try.results126, anW97126] at hc); done)
      | (intro hc; (try simp [hnt, Try.ntmps126, Try.results126, anW97126] at hc); (first | (exfalso; omega) | skip))
      | (refine ⟨?_, ?_⟩; · omega)
      | omega
      | apply_assumption -exfalso -symm
      | (exfalso; omega)))
  refine DW_loop (X := {k : Nat // k ≤ 3 ∧ (0 < k → a = 0) ∧ (1 < k → b = 0) ∧ (2 < k → c = 0)}) (fun k => ⟨[(3, .int .i64 0), (6, .sl 1 8 [[.int .i64 a], [.int .i64 b], [.int .i64 c]]), (7, .int .i64 3), (8, .int .i64 k.1)], []⟩) (fun k => 3 - k.1) ⟨0, by simp⟩ (Sub.lit (by simp)) ?_
  rintro ⟨k, hk, ha, hb, hc⟩
  match k, hk, ha, hb, hc with
  | 0, _, _, _, _ =>
    by_cases h : a = 0
    · (repeat (first
        | (refine DW_seq fun K hK => ?_)
        | (refine DW_r anW97126 Try.mixed (by kernel_rfl) ?_; simp [hnt, Try.ntmps126, Try.results126, anW97126, h]; try simp (disch := omega) only [wrap64_in])
        | (refine DW_block ?_)
        | (focus (refine DW_if ?_ ?_ ?_; (· (simp [hnt, Try.ntmps126, Try.results126, anW97126, h]; done)); (try (rotate_left; (· (intro hc; (try simp [hnt, Try.ntmps126, Try.results126, anW97126, h] at hc); done))))))
        | (refine DW_ret ?_; simp [hnt, Try.ntmps126, Try.results126, anW97126, h])
        | (refine DW_exit ?_; simp [hnt, Try.ntmps126, Try.results126, anW97126, h])
        | (refine DW_skip ?_; simp [hnt, Try.ntmps126, Try.results126, anW97126, h])
        | (intro hc; (try simp [hnt, Try.ntmps126, Try.results126, anW97126, h] at hc); done)
        | (intro hc; (try simp [hnt, Try.ntmps126, Try.results126, anW97126, h] at hc); (first | (exfalso; omega) | skip))
        | (refine ⟨?_, ?_⟩; · omega)
        | omega
        | apply_assumption -exfalso -symm
        | (exfalso; omega)))
      refine Again.mk ⟨1, by simp [h]⟩ (Sub.lit (by simp)) (by simp)
      (repeat (first
          | (refine DW_seq fun K hK => ?_)
          | (refine DW_r anW97126 Try.mixed (by kernel_rfl) ?_; simp [hnt, Try.ntmps126, Try.results126, anW97126, h]; try simp (disch := omega) only [wrap64_in])
          | (refine DW_block ?_)
          | (focus (refine DW_if ?_ ?_ ?_; (· (simp [hnt, Try.ntmps126, Try.results126, anW97126, h]; done)); (try (rotate_left; (· (intro hc; (try simp [hnt, Try.ntmps126, Try.results126, anW97126, h] at hc); done))))))
          | (refine DW_ret ?_; simp [hnt, Try.ntmps126, Try.results126, anW97126, h])
          | (refine DW_exit ?_; simp [hnt, Try.ntmps126, Try.results126, anW97126, h])
          | (refine DW_skip ?_; simp [hnt, Try.ntmps126, Try.results126, anW97126, h])
          | (intro hc; (try simp [hnt, Try.ntmps126, Try.results126, anW97126, h] at hc); done)
          | (intro hc; (try simp [hnt, Try.ntmps126, Try.results126, anW97126, h] at hc); (first | (exfalso; omega) | skip))
          | (refine ⟨?_, ?_⟩; · omega)
          | omega
          | apply_assumption -exfalso -symm
          | (exfalso; omega)))
    · have h' : (a != 0) = true := by simpa using h
      (repeat (first
          | (refine DW_seq fun K hK => ?_)
          | (refine DW_r anW97126 Try.mixed (by kernel_rfl) ?_; simp [hnt, Try.ntmps126, Try.results126, anW97126, h, h']; try simp (disch := omega) only [wrap64_in])
          | (refine DW_block ?_)
          | (focus (refine DW_if ?_ ?_ ?_; (· (simp [hnt, Try.ntmps126, Try.results126, anW97126, h, h']; done)); (try (rotate_left; (· (intro hc; (try simp [hnt, Try.ntmps126, Try.results126, anW97126, h, h'] at hc); done))))))
          | (refine DW_ret ?_; simp [hnt, Try.ntmps126, Try.results126, anW97126, h, h'])
          | (refine DW_exit ?_; simp [hnt, Try.ntmps126, Try.results126, anW97126, h, h'])
          | (refine DW_skip ?_; simp [hnt, Try.ntmps126, Try.results126, anW97126, h, h'])
          | (intro hc; (try simp [hnt, Try.ntmps126, Try.results126, anW97126, h, h'] at hc); done)
          | (intro hc; (try simp [hnt, Try.ntmps126, Try.results126, anW97126, h, h'] at hc); (first | (exfalso; omega) | skip))
          | (refine ⟨?_, ?_⟩; · omega)
          | omega
          | apply_assumption -exfalso -symm
          | (exfalso; omega)))
  | 1, _, ha, _, _ =>
    have ha := ha (by omega)
    by_cases h : b = 0
    · (repeat (first
        | (refine DW_seq fun K hK => ?_)
        | (refine DW_r anW97126 Try.mixed (by kernel_rfl) ?_; simp [hnt, Try.ntmps126, Try.results126, anW97126, h]; try simp (disch := omega) only [wrap64_in])
        | (refine DW_block ?_)
        | (focus (refine DW_if ?_ ?_ ?_; (· (simp [hnt, Try.ntmps126, Try.results126, anW97126, h]; done)); (try (rotate_left; (· (intro hc; (try simp [hnt, Try.ntmps126, Try.results126, anW97126, h] at hc); done))))))
        | (refine DW_ret ?_; simp [hnt, Try.ntmps126, Try.results126, anW97126, h])
        | (refine DW_exit ?_; simp [hnt, Try.ntmps126, Try.results126, anW97126, h])
        | (refine DW_skip ?_; simp [hnt, Try.ntmps126, Try.results126, anW97126, h])
        | (intro hc; (try simp [hnt, Try.ntmps126, Try.results126, anW97126, h] at hc); done)
        | (intro hc; (try simp [hnt, Try.ntmps126, Try.results126, anW97126, h] at hc); (first | (exfalso; omega) | skip))
        | (refine ⟨?_, ?_⟩; · omega)
        | omega
        | apply_assumption -exfalso -symm
        | (exfalso; omega)))
      refine Again.mk ⟨2, by simp [h, ha]⟩ (Sub.lit (by simp)) (by simp)
      (repeat (first
          | (refine DW_seq fun K hK => ?_)
          | (refine DW_r anW97126 Try.mixed (by kernel_rfl) ?_; simp [hnt, Try.ntmps126, Try.results126, anW97126, h]; try simp (disch := omega) only [wrap64_in])
          | (refine DW_block ?_)
          | (focus (refine DW_if ?_ ?_ ?_; (· (simp [hnt, Try.ntmps126, Try.results126, anW97126, h]; done)); (try (rotate_left; (· (intro hc; (try simp [hnt, Try.ntmps126, Try.results126, anW97126, h] at hc); done))))))
          | (refine DW_ret ?_; simp [hnt, Try.ntmps126, Try.results126, anW97126, h])
          | (refine DW_exit ?_; simp [hnt, Try.ntmps126, Try.results126, anW97126, h])
          | (refine DW_skip ?_; simp [hnt, Try.ntmps126, Try.results126, anW97126, h])
          | (intro hc; (try simp [hnt, Try.ntmps126, Try.results126, anW97126, h] at hc); done)
          | (intro hc; (try simp [hnt, Try.ntmps126, Try.results126, anW97126, h] at hc); (first | (exfalso; omega) | skip))
          | (refine ⟨?_, ?_⟩; · omega)
          | omega
          | apply_assumption -exfalso -symm
          | (exfalso; omega)))
    · have h' : (b != 0) = true := by simpa using h
      (repeat (first
          | (refine DW_seq fun K hK => ?_)
          | (refine DW_r anW97126 Try.mixed (by kernel_rfl) ?_; simp [hnt, Try.ntmps126, Try.results126, anW97126, h, h', ha]; try simp (disch := omega) only [wrap64_in])
          | (refine DW_block ?_)
          | (focus (refine DW_if ?_ ?_ ?_; (· (simp [hnt, Try.ntmps126, Try.results126, anW97126, h, h', ha]; done)); (try (rotate_left; (· (intro hc; (try simp [hnt, Try.ntmps126, Try.results126, anW97126, h, h', ha] at hc); done))))))
          | (refine DW_ret ?_; simp [hnt, Try.ntmps126, Try.results126, anW97126, h, h', ha])
          | (refine DW_exit ?_; simp [hnt, Try.ntmps126, Try.results126, anW97126, h, h', ha])
          | (refine DW_skip ?_; simp [hnt, Try.ntmps126, Try.results126, anW97126, h, h', ha])
          | (intro hc; (try simp [hnt, Try.ntmps126, Try.results126, anW97126, h, h', ha] at hc); done)
          | (intro hc; (try simp [hnt, Try.ntmps126, Try.results126, anW97126, h, h', ha] at hc); (first | (exfalso; omega) | skip))
          | (refine ⟨?_, ?_⟩; · omega)
          | omega
          | apply_assumption -exfalso -symm
          | (exfalso; omega)))
  | 2, _, ha, hb, _ =>
    have ha := ha (by omega)
    have hb := hb (by omega)
    by_cases h : c = 0
    · (repeat (first
        | (refine DW_seq fun K hK => ?_)
        | (refine DW_r anW97126 Try.mixed (by kernel_rfl) ?_; simp [hnt, Try.ntmps126, Try.results126, anW97126, h]; try simp (disch := omega) only [wrap64_in])
        | (refine DW_block ?_)
        | (focus (refine DW_if ?_ ?_ ?_; (· (simp [hnt, Try.ntmps126, Try.results126, anW97126, h]; done)); (try (rotate_left; (· (intro hc; (try simp [hnt, Try.ntmps126, Try.results126, anW97126, h] at hc); done))))))
        | (refine DW_ret ?_; simp [hnt, Try.ntmps126, Try.results126, anW97126, h])
        | (refine DW_exit ?_; simp [hnt, Try.ntmps126, Try.results126, anW97126, h])
        | (refine DW_skip ?_; simp [hnt, Try.ntmps126, Try.results126, anW97126, h])
        | (intro hc; (try simp [hnt, Try.ntmps126, Try.results126, anW97126, h] at hc); done)
        | (intro hc; (try simp [hnt, Try.ntmps126, Try.results126, anW97126, h] at hc); (first | (exfalso; omega) | skip))
        | (refine ⟨?_, ?_⟩; · omega)
        | omega
        | apply_assumption -exfalso -symm
        | (exfalso; omega)))
      refine Again.mk ⟨3, by simp [h, ha, hb]⟩ (Sub.lit (by simp)) (by simp)
      (repeat (first
          | (refine DW_seq fun K hK => ?_)
          | (refine DW_r anW97126 Try.mixed (by kernel_rfl) ?_; simp [hnt, Try.ntmps126, Try.results126, anW97126, h]; try simp (disch := omega) only [wrap64_in])
          | (refine DW_block ?_)
          | (focus (refine DW_if ?_ ?_ ?_; (· (simp [hnt, Try.ntmps126, Try.results126, anW97126, h]; done)); (try (rotate_left; (· (intro hc; (try simp [hnt, Try.ntmps126, Try.results126, anW97126, h] at hc); done))))))
          | (refine DW_ret ?_; simp [hnt, Try.ntmps126, Try.results126, anW97126, h])
          | (refine DW_exit ?_; simp [hnt, Try.ntmps126, Try.results126, anW97126, h])
          | (refine DW_skip ?_; simp [hnt, Try.ntmps126, Try.results126, anW97126, h])
          | (intro hc; (try simp [hnt, Try.ntmps126, Try.results126, anW97126, h] at hc); done)
          | (intro hc; (try simp [hnt, Try.ntmps126, Try.results126, anW97126, h] at hc); (first | (exfalso; omega) | skip))
          | (refine ⟨?_, ?_⟩; · omega)
          | omega
          | apply_assumption -exfalso -symm
          | (exfalso; omega)))
    · have h' : (c != 0) = true := by simpa using h
      (repeat (first
          | (refine DW_seq fun K hK => ?_)
          | (refine DW_r anW97126 Try.mixed (by kernel_rfl) ?_; simp [hnt, Try.ntmps126, Try.results126, anW97126, h, h', ha, hb]; try simp (disch := omega) only [wrap64_in])
          | (refine DW_block ?_)
          | (focus (refine DW_if ?_ ?_ ?_; (· (simp [hnt, Try.ntmps126, Try.results126, anW97126, h, h', ha, hb]; done)); (try (rotate_left; (· (intro hc; (try simp [hnt, Try.ntmps126, Try.results126, anW97126, h, h', ha, hb] at hc); done))))))
          | (refine DW_ret ?_; simp [hnt, Try.ntmps126, Try.results126, anW97126, h, h', ha, hb])
          | (refine DW_exit ?_; simp [hnt, Try.ntmps126, Try.results126, anW97126, h, h', ha, hb])
          | (refine DW_skip ?_; simp [hnt, Try.ntmps126, Try.results126, anW97126, h, h', ha, hb])
          | (intro hc; (try simp [hnt, Try.ntmps126, Try.results126, anW97126, h, h', ha, hb] at hc); done)
          | (intro hc; (try simp [hnt, Try.ntmps126, Try.results126, anW97126, h, h', ha, hb] at hc); (first | (exfalso; omega) | skip))
          | (refine ⟨?_, ?_⟩; · omega)
          | omega
          | apply_assumption -exfalso -symm
          | (exfalso; omega)))
  | 3, _, ha, hb, hc =>
    have ha := ha (by omega)
    have hb := hb (by omega)
    have hc := hc (by omega)
    (repeat (first
        | (refine DW_seq fun K hK => ?_)
        | (refine DW_r anW97126 Try.mixed (by kernel_rfl) ?_; simp [hnt, Try.ntmps126, Try.results126, anW97126, ha, hb, hc]; try simp (disch := omega) only [wrap64_in])
        | (refine DW_block ?_)
        | (focus (refine DW_if ?_ ?_ ?_; (· (simp [hnt, Try.ntmps126, Try.results126, anW97126, ha, hb, hc]; done)); (try (rotate_left; (· (intro hc; (try simp [hnt, Try.ntmps126, Try.results126, anW97126, ha, hb, hc] at hc); done))))))
        | (refine DW_ret ?_; simp [hnt, Try.ntmps126, Try.results126, anW97126, ha, hb, hc])
        | (refine DW_exit ?_; simp [hnt, Try.ntmps126, Try.results126, anW97126, ha, hb, hc])
        | (refine DW_skip ?_; simp [hnt, Try.ntmps126, Try.results126, anW97126, ha, hb, hc])
        | (intro hc; (try simp [hnt, Try.ntmps126, Try.results126, anW97126, ha, hb, hc] at hc); done)
        | (intro hc; (try simp [hnt, Try.ntmps126, Try.results126, anW97126, ha, hb, hc] at hc); (first | (exfalso; omega) | skip))
        | (refine ⟨?_, ?_⟩; · omega)
        | omega
        | apply_assumption -exfalso -symm
        | (exfalso; omega)))

def symC (x y : Sym) : Int := if x.label = y.label then cmpI x.n y.n else if x.label then 1 else -1
def anW97129 : Ann := ⟨[], []⟩
theorem bySym_pure (x y : Sym) : DPure Try.prog 129 [.agg (dSym x), .agg (dSym y)] (.int .i64 (symC x y)) := by
  refine DPure_introF [] (fn := Try.f129) Try.func129 rfl Try.call129 (by simp [Try.ntmps129]) (by simp [mx]) ?_
  intro hwf B hnt
  simp only [argS]
  cases h1 : x.label <;> cases h2 : y.label <;> (repeat (first
      | (refine DW_seq fun K hK => ?_)
      | (refine DW_r anW97129 Try.mixed (by kernel_rfl) ?_; simp [hnt, Try.ntmps129, Try.results129, anW97129, dSym, h1, h2, symC]; try simp (disch := omega) only [wrap64_in])
      | (refine DW_block ?_)
      | (focus (refine DW_if ?_ ?_ ?_; (· (simp [hnt, Try.ntmps129, Try.results129, anW97129, dSym, h1, h2, symC]; done)); (try (rotate_left; (· (intro hc; (try simp [hnt, Try.ntmps129, Try.results129, anW97129, dSym, h1, h2, symC] at hc); done))))))
      | (refine DW_ret ?_; simp [hnt, Try.ntmps129, Try.results129, anW97129, dSym, h1, h2, symC])
      | (refine DW_exit ?_; simp [hnt, Try.ntmps129, Try.results129, anW97129, dSym, h1, h2, symC])
      | (refine DW_skip ?_; simp [hnt, Try.ntmps129, Try.results129, anW97129, dSym, h1, h2, symC])
      | (intro hc; (try simp [hnt, Try.ntmps129, Try.results129, anW97129, dSym, h1, h2, symC] at hc); done)
      | (intro hc; (try simp [hnt, Try.ntmps129, Try.results129, anW97129, dSym, h1, h2, symC] at hc); (first | (exfalso; omega) | skip))
      | (refine callP_mk (cmpInt_pure x.n y.n) ?_; try simp [hnt, Try.ntmps129, Try.results129, anW97129, dSym, h1, h2, symC])
      | (refine callP_wk (cmpInt_pure x.n y.n) ?_ ?_; (· (simp; done)); try simp [hnt, Try.ntmps129, Try.results129, anW97129, dSym, h1, h2, symC])
      | (refine ⟨?_, ?_⟩; · omega)
      | omega
      | apply_assumption -exfalso -symm
      | (exfalso; omega)))

def anW97128 : Ann := ⟨[], [⟨3, [8], [], []⟩, ⟨6, [9], [], []⟩]⟩
set_option maxHeartbeats 1000000 in
theorem compareFunc128_pure (g : FuncId) (c : Sym → Sym → Int) (a b : List Sym) (hg : ∀ x ∈ a, ∀ y ∈ b, DPure Try.prog g [.agg (dSym x), .agg (dSym y)] (.int .i64 (c x y))) :
    DPure Try.prog 128 [dSyms a, dSyms b, .fn (.func g) [] []] (.int .i64 (cmpL c a b)) := by
  refine DPure_introF [] (fn := Try.f128) Try.func128 rfl Try.call128 (by simp [Try.ntmps128]) (by simp [mx]) ?_
  intro hwf B hnt
  have hw : wSyms a := w_syms hwf.1
  have hw' : wSyms b := w_syms hwf.2.1
  obtain ⟨hw1, hw2, hw3⟩ := hw
  obtain ⟨hv1, hv2, hv3⟩ := hw'
  clear hwf
  simp only [argS]
  obtain ⟨r, hr⟩ : ∃ r, r = cmpL c a b := ⟨_, rfl⟩
  rw [← hr]
  (repeat (first
      | (refine DW_seq fun K hK => ?_)
      | (refine DW_r anW97128 Try.mixed (by kernel_rfl) ?_; simp [hnt, Try.ntmps128, Try.results128, anW97128]; try simp (disch := omega) only [wrap64_in])
      | (refine DW_block ?_)
      | (focus (refine DW_if ?_ ?_ ?_; (· (simp [hnt, Try.ntmps128, Try.results128, anW97128]; done)); (try (rotate_left; (· (intro hc; (try simp [hnt, Try.ntmps128, Try.results128, anW97128] at hc); done))))))
      | (refine DW_ret ?_; simp [hnt, Try.ntmps128, Try.results128, anW97128])
      | (refine DW_exit ?_; simp [hnt, Try.ntmps128, Try.results128, anW97128])
      | (refine DW_skip ?_; simp [hnt, Try.ntmps128, Try.results128, anW97128])
      | (intro hc; (try simp [hnt, Try.ntmps128, Try.results128, anW97128] at hc); done)
      | (intro hc; (try simp [hnt, Try.ntmps128, Try.results128, anW97128] at hc); (first | (exfalso; omega) | skip))
      | (refine ⟨?_, ?_⟩; · omega)
      | omega
      | apply_assumption -exfalso -symm
      | (exfalso; omega)))
  refine DW_loop (X := {k : Nat // k ≤ a.length ∧ k ≤ b.length ∧ r = cmpL c (a.drop k) (b.drop k)}) (fun k => ⟨[(0, dSyms a), (1, dSyms b), (2, .fn (.func g) [] []), (11, dSyms a), (12, .int .i64 a.length), (13, .int .i64 k.1)], []⟩) (fun k => a.length - k.1) ⟨0, by simp [hr]⟩ (Sub.lit (by simp)) ?_
  rintro ⟨k, hk, hk', hcc⟩
  clear hr
  by_cases hlt : k < a.length
  · obtain ⟨x, hx, hx', hxm⟩ := at_lt' hlt
    by_cases hlt' : k < b.length
    · obtain ⟨y, hy, hy', hym⟩ := at_lt' hlt'
      have hxy := hg x hxm y hym
      simp only [dSym] at hxy
      have hat := cmpL_at (c := c) hx hy
      have hle : ¬ b.length ≤ k := by omega
      by_cases h0 : c x y = 0
      · rw [if_pos h0] at hat
        have hd := hcc.trans hat
        (repeat (first
            | (refine DW_seq fun K hK => ?_)
            | (refine DW_r anW97128 Try.mixed (by kernel_rfl) ?_; simp [hnt, Try.ntmps128, Try.results128, anW97128, dSym, hlt, hlt', hle, hx', hy', h0]; try simp (disch := omega) only [wrap64_in])
            | (refine DW_block ?_)
            | (focus (refine DW_if ?_ ?_ ?_; (· (simp [hnt, Try.ntmps128, Try.results128, anW97128, dSym, hlt, hlt', hle, hx', hy', h0]; done)); (try (rotate_left; (· (intro hc; (try simp [hnt, Try.ntmps128, Try.results128, anW97128, dSym, hlt, hlt', hle, hx', hy', h0] at hc); done))))))
            | (refine DW_ret ?_; simp [hnt, Try.ntmps128, Try.results128, anW97128, dSym, hlt, hlt', hle, hx', hy', h0])
            | (refine DW_exit ?_; simp [hnt, Try.ntmps128, Try.results128, anW97128, dSym, hlt, hlt', hle, hx', hy', h0])
            | (refine DW_skip ?_; simp [hnt, Try.ntmps128, Try.results128, anW97128, dSym, hlt, hlt', hle, hx', hy', h0])
            | (intro hc; (try simp [hnt, Try.ntmps128, Try.results128, anW97128, dSym, hlt, hlt', hle, hx', hy', h0] at hc); done)
            | (intro hc; (try simp [hnt, Try.ntmps128, Try.results128, anW97128, dSym, hlt, hlt', hle, hx', hy', h0] at hc); (first | (exfalso; omega) | skip))
            | (refine callP_mk (hxy) ?_; try simp [hnt, Try.ntmps128, Try.results128, anW97128, dSym, hlt, hlt', hle, hx', hy', h0])
            | (refine callP_wk (hxy) ?_ ?_; (· (simp; done)); try simp [hnt, Try.ntmps128, Try.results128, anW97128, dSym, hlt, hlt', hle, hx', hy', h0])
            | (refine ⟨?_, ?_⟩; · omega)
            | omega
            | apply_assumption -exfalso -symm
            | (exfalso; omega)))
        refine Again.mk ⟨k + 1, by omega, by omega, hd⟩ (Sub.lit (by simp)) (by simp; omega)
        (repeat (first
            | (refine DW_seq fun K hK => ?_)
            | (refine DW_r anW97128 Try.mixed (by kernel_rfl) ?_; simp [hnt, Try.ntmps128, Try.results128, anW97128]; try simp (disch := omega) only [wrap64_in])
            | (refine DW_block ?_)
            | (focus (refine DW_if ?_ ?_ ?_; (· (simp [hnt, Try.ntmps128, Try.results128, anW97128]; done)); (try (rotate_left; (· (intro hc; (try simp [hnt, Try.ntmps128, Try.results128, anW97128] at hc); done))))))
            | (refine DW_ret ?_; simp [hnt, Try.ntmps128, Try.results128, anW97128])
            | (refine DW_exit ?_; simp [hnt, Try.ntmps128, Try.results128, anW97128])
            | (refine DW_skip ?_; simp [hnt, Try.ntmps128, Try.results128, anW97128])
            | (intro hc; (try simp [hnt, Try.ntmps128, Try.results128, anW97128] at hc); done)
            | (intro hc; (try simp [hnt, Try.ntmps128, Try.results128, anW97128] at hc); (first | (exfalso; omega) | skip))
            | (refine callP_mk (hxy) ?_; try simp [hnt, Try.ntmps128, Try.results128, anW97128])
            | (refine callP_wk (hxy) ?_ ?_; (· (simp; done)); try simp [hnt, Try.ntmps128, Try.results128, anW97128])
            | (refine ⟨?_, ?_⟩; · omega)
            | omega
            | apply_assumption -exfalso -symm
            | (exfalso; omega)))
      · rw [if_neg h0] at hat
        have hd := hcc.trans hat
        have h0' : (c x y != 0) = true := by simpa using h0
        (repeat (first
            | (refine DW_seq fun K hK => ?_)
            | (refine DW_r anW97128 Try.mixed (by kernel_rfl) ?_; simp [hnt, Try.ntmps128, Try.results128, anW97128, dSym, hlt, hlt', hle, hx', hy', h0, h0', hd]; try simp (disch := omega) only [wrap64_in])
            | (refine DW_block ?_)
            | (focus (refine DW_if ?_ ?_ ?_; (· (simp [hnt, Try.ntmps128, Try.results128, anW97128, dSym, hlt, hlt', hle, hx', hy', h0, h0', hd]; done)); (try (rotate_left; (· (intro hc; (try simp [hnt, Try.ntmps128, Try.results128, anW97128, dSym, hlt, hlt', hle, hx', hy', h0, h0', hd] at hc); done))))))
            | (refine DW_ret ?_; simp [hnt, Try.ntmps128, Try.results128, anW97128, dSym, hlt, hlt', hle, hx', hy', h0, h0', hd])
            | (refine DW_exit ?_; simp [hnt, Try.ntmps128, Try.results128, anW97128, dSym, hlt, hlt', hle, hx', hy', h0, h0', hd])
            | (refine DW_skip ?_; simp [hnt, Try.ntmps128, Try.results128, anW97128, dSym, hlt, hlt', hle, hx', hy', h0, h0', hd])
            | (intro hc; (try simp [hnt, Try.ntmps128, Try.results128, anW97128, dSym, hlt, hlt', hle, hx', hy', h0, h0', hd] at hc); done)
            | (intro hc; (try simp [hnt, Try.ntmps128, Try.results128, anW97128, dSym, hlt, hlt', hle, hx', hy', h0, h0', hd] at hc); (first | (exfalso; omega) | skip))
            | (refine callP_mk (hxy) ?_; try simp [hnt, Try.ntmps128, Try.results128, anW97128, dSym, hlt, hlt', hle, hx', hy', h0, h0', hd])
            | (refine callP_wk (hxy) ?_ ?_; (· (simp; done)); try simp [hnt, Try.ntmps128, Try.results128, anW97128, dSym, hlt, hlt', hle, hx', hy', h0, h0', hd])
            | (refine ⟨?_, ?_⟩; · omega)
            | omega
            | apply_assumption -exfalso -symm
            | (exfalso; omega)))
    · have hge : b.length ≤ k := by omega
      have hd := hcc.trans (cmpL_gt (c := c) hlt hge)
      (repeat (first
          | (refine DW_seq fun K hK => ?_)
          | (refine DW_r anW97128 Try.mixed (by kernel_rfl) ?_; simp [hnt, Try.ntmps128, Try.results128, anW97128, dSym, hlt, hge, hx', hd]; try simp (disch := omega) only [wrap64_in])
          | (refine DW_block ?_)
          | (focus (refine DW_if ?_ ?_ ?_; (· (simp [hnt, Try.ntmps128, Try.results128, anW97128, dSym, hlt, hge, hx', hd]; done)); (try (rotate_left; (· (intro hc; (try simp [hnt, Try.ntmps128, Try.results128, anW97128, dSym, hlt, hge, hx', hd] at hc); done))))))
          | (refine DW_ret ?_; simp [hnt, Try.ntmps128, Try.results128, anW97128, dSym, hlt, hge, hx', hd])
          | (refine DW_exit ?_; simp [hnt, Try.ntmps128, Try.results128, anW97128, dSym, hlt, hge, hx', hd])
          | (refine DW_skip ?_; simp [hnt, Try.ntmps128, Try.results128, anW97128, dSym, hlt, hge, hx', hd])
          | (intro hc; (try simp [hnt, Try.ntmps128, Try.results128, anW97128, dSym, hlt, hge, hx', hd] at hc); done)
          | (intro hc; (try simp [hnt, Try.ntmps128, Try.results128, anW97128, dSym, hlt, hge, hx', hd] at hc); (first | (exfalso; omega) | skip))
          | (refine ⟨?_, ?_⟩; · omega)
          | omega
          | apply_assumption -exfalso -symm
          | (exfalso; omega)))
  · have hge : a.length ≤ k := by omega
    have hka : k = a.length := by omega
    subst hka
    have hat := cmpL_le (c := c) (b := b) hge
    by_cases h : a.length < b.length
    · rw [if_pos h] at hat
      have hd := hcc.trans hat
      (repeat (first
          | (refine DW_seq fun K hK => ?_)
          | (refine DW_r anW97128 Try.mixed (by kernel_rfl) ?_; simp [hnt, Try.ntmps128, Try.results128, anW97128, h, hd]; try simp (disch := omega) only [wrap64_in])
          | (refine DW_block ?_)
          | (focus (refine DW_if ?_ ?_ ?_; (· (simp [hnt, Try.ntmps128, Try.results128, anW97128, h, hd]; done)); (try (rotate_left; (· (intro hc; (try simp [hnt, Try.ntmps128, Try.results128, anW97128, h, hd] at hc); done))))))
          | (refine DW_ret ?_; simp [hnt, Try.ntmps128, Try.results128, anW97128, h, hd])
          | (refine DW_exit ?_; simp [hnt, Try.ntmps128, Try.results128, anW97128, h, hd])
          | (refine DW_skip ?_; simp [hnt, Try.ntmps128, Try.results128, anW97128, h, hd])
          | (intro hc; (try simp [hnt, Try.ntmps128, Try.results128, anW97128, h, hd] at hc); done)
          | (intro hc; (try simp [hnt, Try.ntmps128, Try.results128, anW97128, h, hd] at hc); (first | (exfalso; omega) | skip))
          | (refine ⟨?_, ?_⟩; · omega)
          | omega
          | apply_assumption -exfalso -symm
          | (exfalso; omega)))
    · rw [if_neg h] at hat
      have hd := hcc.trans hat
      (repeat (first
          | (refine DW_seq fun K hK => ?_)
          | (refine DW_r anW97128 Try.mixed (by kernel_rfl) ?_; simp [hnt, Try.ntmps128, Try.results128, anW97128, h, hd]; try simp (disch := omega) only [wrap64_in])
          | (refine DW_block ?_)
          | (focus (refine DW_if ?_ ?_ ?_; (· (simp [hnt, Try.ntmps128, Try.results128, anW97128, h, hd]; done)); (try (rotate_left; (· (intro hc; (try simp [hnt, Try.ntmps128, Try.results128, anW97128, h, hd] at hc); done))))))
          | (refine DW_ret ?_; simp [hnt, Try.ntmps128, Try.results128, anW97128, h, hd])
          | (refine DW_exit ?_; simp [hnt, Try.ntmps128, Try.results128, anW97128, h, hd])
          | (refine DW_skip ?_; simp [hnt, Try.ntmps128, Try.results128, anW97128, h, hd])
          | (intro hc; (try simp [hnt, Try.ntmps128, Try.results128, anW97128, h, hd] at hc); done)
          | (intro hc; (try simp [hnt, Try.ntmps128, Try.results128, anW97128, h, hd] at hc); (first | (exfalso; omega) | skip))
          | (refine ⟨?_, ?_⟩; · omega)
          | omega
          | apply_assumption -exfalso -symm
          | (exfalso; omega)))

def symsC (a b : List Sym) : Int := cmpL symC a b
def prodC (p q : Prod) : Int := if cmpI p.head q.head = 0 then (if cmpI p.body.length q.body.length = 0 then symsC p.body q.body else cmpI p.body.length q.body.length) else cmpI p.head q.head
def anW9797 : Ann := ⟨[], []⟩
theorem order_pure (p q : Prod) : DPure Try.prog 97 [.agg (dProd p), .agg (dProd q)] (.int .i64 (prodC p q)) := by
  refine DPure_introF [] (fn := Try.f97) Try.func97 rfl Try.call97 (by simp [Try.ntmps97]) (by simp [mx]) ?_
  intro hwf B hnt
  simp only [argS]
  have h1 := compareFunc128_pure 129 symC p.body q.body (fun x _ y _ => bySym_pure x y)
  have h2 := or3_pure (cmpI p.head q.head) (cmpI p.body.length q.body.length) (symsC p.body q.body)
  simp only [symsC] at h2
  (repeat (first
      | (refine DW_seq fun K hK => ?_)
      | (refine DW_r anW9797 Try.mixed (by kernel_rfl) ?_; simp [hnt, Try.ntmps97, Try.results97, anW9797, dProd, prodC, symsC]; try simp (disch := omega) only [wrap64_in])
      | (refine DW_block ?_)
      | (focus (refine DW_if ?_ ?_ ?_; (· (simp [hnt, Try.ntmps97, Try.results97, anW9797, dProd, prodC, symsC]; done)); (try (rotate_left; (· (intro hc; (try simp [hnt, Try.ntmps97, Try.results97, anW9797, dProd, prodC, symsC] at hc); done))))))
      | (refine DW_ret ?_; simp [hnt, Try.ntmps97, Try.results97, anW9797, dProd, prodC, symsC])
      | (refine DW_exit ?_; simp [hnt, Try.ntmps97, Try.results97, anW9797, dProd, prodC, symsC])
      | (refine DW_skip ?_; simp [hnt, Try.ntmps97, Try.results97, anW9797, dProd, prodC, symsC])
      | (intro hc; (try simp [hnt, Try.ntmps97, Try.results97, anW9797, dProd, prodC, symsC] at hc); done)
      | (intro hc; (try simp [hnt, Try.ntmps97, Try.results97, anW9797, dProd, prodC, symsC] at hc); (first | (exfalso; omega) | skip))
      | (refine callP_mk (cmpInt_pure p.head q.head) ?_; try simp [hnt, Try.ntmps97, Try.results97, anW9797, dProd, prodC, symsC])
      | (refine callP_wk (cmpInt_pure p.head q.head) ?_ ?_; (· (simp; done)); try simp [hnt, Try.ntmps97, Try.results97, anW9797, dProd, prodC, symsC])
      | (refine callP_mk (cmpInt_pure p.body.length q.body.length) ?_; try simp [hnt, Try.ntmps97, Try.results97, anW9797, dProd, prodC, symsC])
      | (refine callP_wk (cmpInt_pure p.body.length q.body.length) ?_ ?_; (· (simp; done)); try simp [hnt, Try.ntmps97, Try.results97, anW9797, dProd, prodC, symsC])
      | (refine callP_mk (h1) ?_; try simp [hnt, Try.ntmps97, Try.results97, anW9797, dProd, prodC, symsC])
      | (refine callP_wk (h1) ?_ ?_; (· (simp; done)); try simp [hnt, Try.ntmps97, Try.results97, anW9797, dProd, prodC, symsC])
      | (refine callP_mk (h2) ?_; try simp [hnt, Try.ntmps97, Try.results97, anW9797, dProd, prodC, symsC])
      | (refine callP_wk (h2) ?_ ?_; (· (simp; done)); try simp [hnt, Try.ntmps97, Try.results97, anW9797, dProd, prodC, symsC])
      | (refine ⟨?_, ?_⟩; · omega)
      | omega
      | apply_assumption -exfalso -symm
      | (exfalso; omega)))
def anW9799 : Ann := ⟨[], []⟩
theorem same_pure (p q : Prod) : DPure Try.prog 99 [.agg (dProd p), .agg (dProd q)] (.bool (prodC p q == 0)) := by
  refine DPure_introF [] (fn := Try.f99) Try.func99 rfl Try.call99 (by simp [Try.ntmps99]) (by simp [mx]) ?_
  intro hwf B hnt
  simp only [argS]
  have h1 := order_pure p q
  (repeat (first
      | (refine DW_seq fun K hK => ?_)
      | (refine DW_r anW9799 Try.mixed (by kernel_rfl) ?_; simp [hnt, Try.ntmps99, Try.results99, anW9799, dProd]; try simp (disch := omega) only [wrap64_in])
      | (refine DW_block ?_)
      | (focus (refine DW_if ?_ ?_ ?_; (· (simp [hnt, Try.ntmps99, Try.results99, anW9799, dProd]; done)); (try (rotate_left; (· (intro hc; (try simp [hnt, Try.ntmps99, Try.results99, anW9799, dProd] at hc); done))))))
      | (refine DW_ret ?_; simp [hnt, Try.ntmps99, Try.results99, anW9799, dProd])
      | (refine DW_exit ?_; simp [hnt, Try.ntmps99, Try.results99, anW9799, dProd])
      | (refine DW_skip ?_; simp [hnt, Try.ntmps99, Try.results99, anW9799, dProd])
      | (intro hc; (try simp [hnt, Try.ntmps99, Try.results99, anW9799, dProd] at hc); done)
      | (intro hc; (try simp [hnt, Try.ntmps99, Try.results99, anW9799, dProd] at hc); (first | (exfalso; omega) | skip))
      | (refine callP_mk (h1) ?_; try simp [hnt, Try.ntmps99, Try.results99, anW9799, dProd])
      | (refine callP_wk (h1) ?_ ?_; (· (simp; done)); try simp [hnt, Try.ntmps99, Try.results99, anW9799, dProd])
      | (refine ⟨?_, ?_⟩; · omega)
      | omega
      | apply_assumption -exfalso -symm
      | (exfalso; omega)))
end Go.Proofs.Ytihkcegelghcpaa
end

section
/- Orders told by a comparison: plain Lean. -/

set_option linter.unusedSimpArgs false
set_option linter.unusedVariables false
namespace Go.Proofs.Ytihkcegelghcpaa
open Go Go.Dm

/-- a comparison that tells a total order -/
structure OrdC {α : Type} (c : α → α → Int) : Prop where
  eq0 : ∀ x y, c x y = 0 ↔ x = y
  anti : ∀ x y, c x y < 0 ↔ 0 < c y x
  trans : ∀ x y z, c x y < 0 → c y z < 0 → c x z < 0
theorem OrdC.refl {α : Type} {c : α → α → Int} (h : OrdC c) (x : α) : c x x = 0 := (h.eq0 x x).2 rfl
theorem OrdC.nle {α : Type} {c : α → α → Int} (h : OrdC c) {x y : α} : ¬ c x y < 0 ↔ c y x < 0 ∨ x = y := by
  have h1 := h.anti x y
  have h2 := h.anti y x
  have h3 := h.eq0 x y
  constructor
  · intro hn
    by_cases h0 : c x y = 0
    · exact .inr (h3.1 h0)
    · exact .inl (h2.2 (by omega))
  · rintro (h4 | rfl)
    · have := h2.1 h4; omega
    · rw [h.refl]; omega
theorem OrdC.ntrans {α : Type} {c : α → α → Int} (h : OrdC c) (x y z : α) (h1 : ¬ c x y < 0) (h2 : ¬ c y z < 0) : ¬ c x z < 0 := by
  rw [h.nle] at *
  rcases h1 with h1 | rfl
  · rcases h2 with h2 | rfl
    · exact .inl (h.trans _ _ _ h2 h1)
    · exact .inl h1
  · exact h2
theorem OrdC.le_anti {α : Type} {c : α → α → Int} (h : OrdC c) {x y : α} (h1 : ¬ c x y < 0) (h2 : ¬ c y x < 0) : x = y := by
  rcases h.nle.1 h1 with h1 | h1
  · exact absurd h1 h2
  · exact h1
theorem OrdC.total {α : Type} {c : α → α → Int} (h : OrdC c) (x y : α) : ¬ c x y < 0 ∨ ¬ c y x < 0 := by
  by_cases h1 : c x y < 0
  · right; have := (h.anti x y).1 h1; omega
  · exact .inl h1

theorem ordI : OrdC cmpI := by
  refine ⟨fun x y => ?_, fun x y => ?_, fun x y z => ?_⟩ <;> unfold cmpI
  · split
    · constructor <;> intro h <;> omega
    · split
      · constructor <;> intro h <;> omega
      · constructor <;> intro h <;> omega
  · by_cases h1 : x < y <;> by_cases h2 : y < x <;> simp [h1, h2] <;> omega
  · by_cases h1 : x < y <;> by_cases h2 : y < z <;> by_cases h3 : x < z <;> simp [h1, h2, h3] <;> (try split) <;> (try split) <;> omega

def lexC {α β : Type} (c : α → α → Int) (d : β → β → Int) (x y : α × β) : Int := if c x.1 y.1 = 0 then d x.2 y.2 else c x.1 y.1
theorem ordLex {α β : Type} {c : α → α → Int} {d : β → β → Int} (h : OrdC c) (k : OrdC d) : OrdC (lexC c d) := by
  refine ⟨fun x y => ?_, fun x y => ?_, fun x y z => ?_⟩ <;> unfold lexC
  · obtain ⟨x1, x2⟩ := x
    obtain ⟨y1, y2⟩ := y
    simp only [_root_.Prod.mk.injEq]
    split
    · rename_i h0
      rw [k.eq0]
      exact ⟨fun hh => ⟨(h.eq0 _ _).1 h0, hh⟩, fun hh => hh.2⟩
    · rename_i h0
      exact ⟨fun hh => absurd hh h0, fun hh => absurd ((h.eq0 _ _).2 hh.1) h0⟩
  · by_cases h0 : c x.1 y.1 = 0
    · have h1 : c y.1 x.1 = 0 := (h.eq0 _ _).2 ((h.eq0 _ _).1 h0).symm
      rw [if_pos h0, if_pos h1]; exact k.anti _ _
    · have h1 : ¬ c y.1 x.1 = 0 := fun hh => h0 ((h.eq0 _ _).2 ((h.eq0 _ _).1 hh).symm)
      rw [if_neg h0, if_neg h1]; exact h.anti _ _
  · by_cases h0 : c x.1 y.1 = 0
    · have e0 := (h.eq0 _ _).1 h0
      rw [if_pos h0]
      by_cases h1 : c y.1 z.1 = 0
      · have e1 := (h.eq0 _ _).1 h1
        have h2 : c x.1 z.1 = 0 := (h.eq0 _ _).2 (e0.trans e1)
        rw [if_pos h1, if_pos h2]; exact k.trans _ _ _
      · have h2 : ¬ c x.1 z.1 = 0 := by rw [e0]; exact h1
        rw [if_neg h1, if_neg h2, e0]; exact fun _ hh => hh
    · rw [if_neg h0]
      by_cases h1 : c y.1 z.1 = 0
      · have e1 := (h.eq0 _ _).1 h1
        have h2 : ¬ c x.1 z.1 = 0 := by rw [← e1]; exact h0
        rw [if_pos h1, if_neg h2, ← e1]; exact fun hh _ => hh
      · rw [if_neg h1]
        intro h3 h4
        have h5 := h.trans _ _ _ h3 h4
        have h2 : ¬ c x.1 z.1 = 0 := by omega
        rw [if_neg h2]; exact h5
theorem ordKey {α β : Type} {c : α → α → Int} (h : OrdC c) (f : β → α) (hf : ∀ x y, f x = f y → x = y) : OrdC (fun x y => c (f x) (f y)) :=
  ⟨fun x y => by rw [h.eq0]; exact ⟨hf _ _, fun hh => by rw [hh]⟩, fun x y => h.anti _ _, fun x y z => h.trans _ _ _⟩
theorem ordL {α : Type} {c : α → α → Int} (h : OrdC c) : OrdC (cmpL c) := by
  refine ⟨fun x => ?_, fun x => ?_, fun x => ?_⟩
  · induction x with
    | nil => intro y; cases y <;> simp [cmpL]
    | cons a x ih =>
      intro y
      cases y with
      | nil => simp [cmpL]
      | cons b y =>
        simp only [cmpL, List.cons.injEq]
        split
        · rename_i h0
          rw [ih]
          exact ⟨fun hh => ⟨(h.eq0 _ _).1 h0, hh⟩, fun hh => hh.2⟩
        · rename_i h0
          exact ⟨fun hh => absurd hh h0, fun hh => absurd ((h.eq0 _ _).2 hh.1) h0⟩
  · induction x with
    | nil => intro y; cases y <;> simp [cmpL]
    | cons a x ih =>
      intro y
      cases y with
      | nil => simp [cmpL]
      | cons b y =>
        simp only [cmpL]
        by_cases h0 : c a b = 0
        · have h1 : c b a = 0 := (h.eq0 _ _).2 ((h.eq0 _ _).1 h0).symm
          rw [if_pos h0, if_pos h1]; exact ih y
        · have h1 : ¬ c b a = 0 := fun hh => h0 ((h.eq0 _ _).2 ((h.eq0 _ _).1 hh).symm)
          rw [if_neg h0, if_neg h1]; exact h.anti _ _
  · induction x with
    | nil => intro y z; cases y <;> cases z <;> simp [cmpL]
    | cons a x ih =>
      intro y z
      cases y with
      | nil => simp [cmpL]
      | cons b y =>
        cases z with
        | nil => simp [cmpL]
        | cons d z =>
          simp only [cmpL]
          by_cases h0 : c a b = 0
          · have e0 := (h.eq0 _ _).1 h0
            rw [if_pos h0]
            by_cases h1 : c b d = 0
            · have h2 : c a d = 0 := by rw [e0]; exact h1
              rw [if_pos h1, if_pos h2]; exact ih y z
            · have h2 : ¬ c a d = 0 := by rw [e0]; exact h1
              rw [if_neg h1, if_neg h2, e0]; exact fun _ hh => hh
          · rw [if_neg h0]
            by_cases h1 : c b d = 0
            · have e1 := (h.eq0 _ _).1 h1
              have h2 : ¬ c a d = 0 := by rw [← e1]; exact h0
              rw [if_pos h1, if_neg h2, ← e1]; exact fun hh _ => hh
            · rw [if_neg h1]
              intro h3 h4
              have h5 := h.trans _ _ _ h3 h4
              have h2 : ¬ c a d = 0 := by omega
              rw [if_neg h2]; exact h5

theorem ordSym : OrdC symC := by
  have h := ordKey (ordLex ordI ordI) (fun s : Sym => ((if s.label then 1 else 0 : Int), s.n)) (by
    rintro ⟨l, n⟩ ⟨l', n'⟩ hh
    simp only [_root_.Prod.mk.injEq] at hh
    obtain ⟨h1, rfl⟩ := hh
    cases l <;> cases l' <;> simp_all)
  have e : symC = fun x y : Sym => lexC cmpI cmpI ((if x.label then 1 else 0 : Int), x.n) ((if y.label then 1 else 0 : Int), y.n) := by
    funext x y
    obtain ⟨l, n⟩ := x
    obtain ⟨l', n'⟩ := y
    cases l <;> cases l' <;> simp [symC, lexC, cmpI]
  rw [e]; exact h
theorem ordProd : OrdC prodC := by
  have h := ordKey (ordLex ordI (ordLex ordI (ordL ordSym))) (fun p : Prod => (p.head, ((p.body.length : Int), p.body))) (by
    rintro ⟨l, n⟩ ⟨l', n'⟩ hh
    simp only [_root_.Prod.mk.injEq] at hh
    obtain ⟨rfl, _, rfl⟩ := hh
    rfl)
  exact h

/-- the one sorted list -/
def sortC {α : Type} (c : α → α → Int) (l : List α) : List α := l.mergeSort (fun x y => !decide (c y x < 0))
theorem sortC_perm {α : Type} (c : α → α → Int) (l : List α) : (sortC c l).Perm l := List.mergeSort_perm _ _
theorem sortC_sorted {α : Type} {c : α → α → Int} (h : OrdC c) (l : List α) : (sortC c l).Pairwise (fun x y => ¬ c y x < 0) := by
  have := List.pairwise_mergeSort (le := fun x y => !decide (c y x < 0)) (by
    intro a b d h1 h2
    simp only [Bool.not_eq_true', decide_eq_false_iff_not] at *
    exact h.ntrans _ _ _ h2 h1) (by
    intro a b
    simp only [Bool.or_eq_true, Bool.not_eq_true', decide_eq_false_iff_not]
    exact h.total b a) l
  exact this.imp fun h => by simpa using h
theorem sorted_eq {α : Type} {c : α → α → Int} (h : OrdC c) {a b : List α} (hp : a.Perm b) (ha : a.Pairwise (fun x y => ¬ c y x < 0)) (hb : b.Pairwise (fun x y => ¬ c y x < 0)) : a = b :=
  List.Perm.eq_of_pairwise (le := fun x y => ¬ c y x < 0) (fun x y _ _ h1 h2 => h.le_anti h2 h1) ha hb hp

def unSym : List DVal → Sym
  | [.bool b, .int _ n] => ⟨b, n⟩
  | _ => ⟨false, 0⟩
def unProd : List DVal → Prod
  | [.int _ h, .sl _ _ es] => ⟨h, es.map unSym⟩
  | _ => ⟨0, []⟩
theorem unSym_d (s : Sym) : unSym (dSym s) = s := rfl
theorem unProd_d (p : Prod) : unProd (dProd p) = p := by
  obtain ⟨h, b⟩ := p
  simp only [unProd, dProd, List.map_map, Prod.mk.injEq, true_and]
  rw [show unSym ∘ dSym = id from funext unSym_d, List.map_id]
theorem uniq_rows {α : Type} {c : α → α → Int} (h : OrdC c) {d : α → List DVal} {u : List DVal → α} (hu : ∀ x, u (d x) = x) {l : List α} {L : List (List DVal)} (hp : L.Perm (l.map d)) (hs : L.Pairwise (fun x y => ¬ c (u y) (u x) < 0)) : L = (sortC c l).map d := by
  have h1 : (L.map u).Perm l := by
    have := hp.map u
    rwa [List.map_map, show u ∘ d = id from funext hu, List.map_id] at this
  have h2 : (L.map u).Pairwise (fun x y => ¬ c y x < 0) := by rw [List.pairwise_map]; exact hs
  have h3 := sorted_eq h (h1.trans (sortC_perm c l).symm) h2 (sortC_sorted h l)
  have h4 : L = (L.map u).map d := by
    rw [List.map_map]
    have h5 : ∀ x ∈ L, (d ∘ u) x = id x := by
      intro x hx
      obtain ⟨y, _, rfl⟩ := List.mem_map.1 (hp.mem_iff.1 hx)
      simp [hu]
    rw [List.map_congr_left h5, List.map_id]
  rw [h4, h3]
end Go.Proofs.Ytihkcegelghcpaa
end

section
/- A part of a proof: walks over the functions that it names; their contracts hold for every argument. -/

set_option linter.unusedSimpArgs false
set_option linter.unusedVariables false
namespace Go.Proofs.Ytihkcegelghcpaa
open Go Go.Dm
attribute [local irreducible] DW callP callS
set_option maxRecDepth 100000

/-- slices.CompactFunc -/
def compGo {α : Type} (e : α → α → Bool) (p : α) : List α → List α
  | [] => []
  | y :: l => if e y p then compGo e y l else y :: compGo e y l
def compL {α : Type} (e : α → α → Bool) : List α → List α
  | [] => []
  | x :: l => x :: compGo e x l
theorem compGo_snoc {α : Type} {e : α → α → Bool} {y : α} : ∀ {l : List α} {p : α}, compGo e p (l ++ [y]) = compGo e p l ++ (if e y (l.getLast?.getD p) then [] else [y])
  | [], p => by by_cases h : e y p <;> simp [compGo, h]
  | x :: l, p => by
    have h := compGo_snoc (e := e) (y := y) (l := l) (p := x)
    have h2 : (x :: l).getLast?.getD p = l.getLast?.getD x := by
      cases l with
      | nil => rfl
      | cons z l => simp [List.getLast?_cons_cons, List.getLast?_eq_some_getLast]
    rw [h2]
    simp only [List.cons_append, compGo]
    split
    · exact h
    · rw [h]; rfl
theorem compL_snoc {α : Type} {e : α → α → Bool} {l : List α} {k : Nat} {x y : α} (h0 : 0 < k) (hx : l[k - 1]? = some x) (hy : l[k]? = some y) : compL e (l.take (k + 1)) = compL e (l.take k) ++ (if e y x then [] else [y]) := by
  rw [List.take_add_one, hy]
  obtain ⟨z, t, hz⟩ : ∃ z t, l.take k = z :: t := by
    cases h : l.take k with
    | nil =>
      have h1 := congrArg List.length h
      have := (List.getElem?_eq_some_iff.1 hy).1
      rw [List.length_take] at h1
      simp only [List.length_nil] at h1
      omega
    | cons z t => exact ⟨z, t, rfl⟩
  have hl : (l.take k).getLast? = some x := by
    rw [List.getLast?_eq_getElem?, List.getElem?_take]
    have := (List.getElem?_eq_some_iff.1 hy).1
    simp only [List.length_take]
    rw [show min k l.length - 1 = k - 1 by omega, if_pos (by omega)]
    exact hx
  rw [hz] at hl ⊢
  have h2 : t.getLast?.getD z = x := by
    cases t with
    | nil => simpa using hl
    | cons a t => simpa [List.getLast?_cons_cons, List.getLast?_eq_some_getLast] using hl
  simp only [Option.toList_some, List.cons_append, compL, compGo_snoc, h2]

def anW9898 : Ann := ⟨[], []⟩
set_option maxHeartbeats 4000000 in
theorem compact98_spec (g : FuncId) (e : Prod → Prod → Bool) (l : List Prod) (he : ∀ x ∈ l, ∀ y ∈ l, DPure Try.prog g [.agg (dProd x), .agg (dProd y)] (.bool (e x y))) :
    DSpec Try.prog (.func 98) [.osl 0 0, .fn (.func g) [] []] [⟨0, 0, .row 33 2 32 (l.map dProd)⟩] (dProds (compL e l)) [] := by
  refine DSpec_introW [0] [] (fn := Try.f98) Try.func98 rfl Try.call98 (by simp [Try.ntmps98]) (by simp) (by simp) ?_
  intro hwf hwo B hnt
  simp only [argS]
  have hl : l.length ≤ 9223372036854775807 := by
    simp only [wfOwn, maxLen, List.length_map] at hwo
    omega
  clear hwo
  by_cases hl2 : l.length < 2
  · have hcl : compL e l = l := by
      match l, hl2 with
      | [], _ => rfl
      | [x], _ => rfl
    (repeat (first
        | (refine DW_seq fun K hK => ?_)
        | (refine DW_r anW9898 Try.mixed (by kernel_rfl) ?_; simp [hnt, Try.ntmps98, Try.results98, anW9898, hl2, hcl]; try simp (disch := omega) only [wrap64_in])
        | (refine DW_block ?_)
        | (focus (refine DW_if ?_ ?_ ?_; (· (simp [hnt, Try.ntmps98, Try.results98, anW9898, hl2, hcl]; done)); (try (rotate_left; (· (intro hc; (try simp [hnt, Try.ntmps98, Try.results98, anW9898, hl2, hcl] at hc); done))))))
        | (refine DW_ret ?_; simp [hnt, Try.ntmps98, Try.results98, anW9898, hl2, hcl])
        | (refine DW_exit ?_; simp [hnt, Try.ntmps98, Try.results98, anW9898, hl2, hcl])
        | (refine DW_skip ?_; simp [hnt, Try.ntmps98, Try.results98, anW9898, hl2, hcl])
        | (intro hc; (try simp [hnt, Try.ntmps98, Try.results98, anW9898, hl2, hcl] at hc); done)
        | (intro hc; (try simp [hnt, Try.ntmps98, Try.results98, anW9898, hl2, hcl] at hc); (first | (exfalso; omega) | skip))
        | (refine ⟨?_, ?_⟩; · omega)
        | omega
        | apply_assumption -exfalso -symm
        | (exfalso; omega)))
  have hl2' : ¬ (l.length : Int) < 2 := by omega
  obtain ⟨R0, hR0⟩ : ∃ R0, R0 = compL e l := ⟨_, rfl⟩
  rw [← hR0]
  (repeat (first
      | (refine DW_seq fun K hK => ?_)
      | (refine DW_r anW9898 Try.mixed (by kernel_rfl) ?_; simp [hnt, Try.ntmps98, Try.results98, anW9898, hl2, hl2']; try simp (disch := omega) only [wrap64_in])
      | (refine DW_block ?_)
      | (focus (refine DW_if ?_ ?_ ?_; (· (simp [hnt, Try.ntmps98, Try.results98, anW9898, hl2, hl2']; done)); (try (rotate_left; (· (intro hc; (try simp [hnt, Try.ntmps98, Try.results98, anW9898, hl2, hl2'] at hc); done))))))
      | (refine DW_ret ?_; simp [hnt, Try.ntmps98, Try.results98, anW9898, hl2, hl2'])
      | (refine DW_exit ?_; simp [hnt, Try.ntmps98, Try.results98, anW9898, hl2, hl2'])
      | (refine DW_skip ?_; simp [hnt, Try.ntmps98, Try.results98, anW9898, hl2, hl2'])
      | (intro hc; (try simp [hnt, Try.ntmps98, Try.results98, anW9898, hl2, hl2'] at hc); done)
      | (intro hc; (try simp [hnt, Try.ntmps98, Try.results98, anW9898, hl2, hl2'] at hc); (first | (exfalso; omega) | skip))
      | (refine ⟨?_, ?_⟩; · omega)
      | omega
      | apply_assumption -exfalso -symm
      | (exfalso; omega)))
  refine DW_loop (X := {k : Nat // 1 ≤ k ∧ k ≤ l.length ∧ compL e (l.take k) = l.take k}) (fun k => ⟨[(0, .osl 0 0), (1, .fn (.func g) [] []), (5, .int .i64 k.1)], [⟨0, 0, .row 33 2 32 (l.map dProd)⟩]⟩) (fun k => l.length - k.1) ⟨1, by
    obtain ⟨x, t, rfl⟩ : ∃ x t, l = x :: t := by
      cases l with
      | nil => simp at hl2
      | cons x t => exact ⟨x, t, rfl⟩
    simp [compL, compGo]⟩ (Sub.lit (by simp)) ?_
  rintro ⟨k, hk1, hk, hck⟩
  by_cases hlt : k < l.length
  · obtain ⟨q, hq, hq', hqm⟩ := at_lt' hlt
    obtain ⟨p, hp, hp', hpm⟩ := at_lt' (show k - 1 < l.length by omega)
    have hpq := he q hqm p hpm
    simp only [dProd] at hpq
    have hwr : IntKind.i64.wrap ((k : Int) - 1) = (k : Int) - 1 := wrap64_in (by omega) (by omega)
    have hk0 : ((k : Int) - 1).toNat = k - 1 := by omega
    have hs := compL_snoc (e := e) (by omega) hp hq
    have hb1 : (0 : Int) ≤ (k : Int) - 1 := by omega
    have hb2 : (k : Int) - 1 < l.length := by omega
    cases hepq : e q p
    · rw [hepq] at hpq hs
      simp only [Bool.false_eq_true, if_false] at hs
      (repeat (first
          | (refine DW_seq fun K hK => ?_)
          | (refine DW_r anW9898 Try.mixed (by kernel_rfl) ?_; simp [hnt, Try.ntmps98, Try.results98, anW9898, dProd, hlt, hq', hp', hp, hq, hk0, hwr, hb1, hb2]; try simp (disch := omega) only [wrap64_in])
          | (refine DW_block ?_)
          | (focus (refine DW_if ?_ ?_ ?_; (· (simp [hnt, Try.ntmps98, Try.results98, anW9898, dProd, hlt, hq', hp', hp, hq, hk0, hwr, hb1, hb2]; done)); (try (rotate_left; (· (intro hc; (try simp [hnt, Try.ntmps98, Try.results98, anW9898, dProd, hlt, hq', hp', hp, hq, hk0, hwr, hb1, hb2] at hc); done))))))
          | (refine DW_ret ?_; simp [hnt, Try.ntmps98, Try.results98, anW9898, dProd, hlt, hq', hp', hp, hq, hk0, hwr, hb1, hb2])
          | (refine DW_exit ?_; simp [hnt, Try.ntmps98, Try.results98, anW9898, dProd, hlt, hq', hp', hp, hq, hk0, hwr, hb1, hb2])
          | (refine DW_skip ?_; simp [hnt, Try.ntmps98, Try.results98, anW9898, dProd, hlt, hq', hp', hp, hq, hk0, hwr, hb1, hb2])
          | (intro hc; (try simp [hnt, Try.ntmps98, Try.results98, anW9898, dProd, hlt, hq', hp', hp, hq, hk0, hwr, hb1, hb2] at hc); done)
          | (intro hc; (try simp [hnt, Try.ntmps98, Try.results98, anW9898, dProd, hlt, hq', hp', hp, hq, hk0, hwr, hb1, hb2] at hc); (first | (exfalso; omega) | skip))
          | (refine callP_mk (hpq) ?_; try simp [hnt, Try.ntmps98, Try.results98, anW9898, dProd, hlt, hq', hp', hp, hq, hk0, hwr, hb1, hb2])
          | (refine callP_wk (hpq) ?_ ?_; (· (simp; done)); try simp [hnt, Try.ntmps98, Try.results98, anW9898, dProd, hlt, hq', hp', hp, hq, hk0, hwr, hb1, hb2])
          | (refine ⟨?_, ?_⟩; · omega)
          | omega
          | apply_assumption -exfalso -symm
          | (exfalso; omega)))
      refine Again.mk ⟨k + 1, by omega, by omega, by rw [hs, hck, List.take_add_one, hq]; rfl⟩ (Sub.lit (by simp)) (by simp; omega)
      (repeat (first
          | (refine DW_seq fun K hK => ?_)
          | (refine DW_r anW9898 Try.mixed (by kernel_rfl) ?_; simp [hnt, Try.ntmps98, Try.results98, anW9898]; try simp (disch := omega) only [wrap64_in])
          | (refine DW_block ?_)
          | (focus (refine DW_if ?_ ?_ ?_; (· (simp [hnt, Try.ntmps98, Try.results98, anW9898]; done)); (try (rotate_left; (· (intro hc; (try simp [hnt, Try.ntmps98, Try.results98, anW9898] at hc); done))))))
          | (refine DW_ret ?_; simp [hnt, Try.ntmps98, Try.results98, anW9898])
          | (refine DW_exit ?_; simp [hnt, Try.ntmps98, Try.results98, anW9898])
          | (refine DW_skip ?_; simp [hnt, Try.ntmps98, Try.results98, anW9898])
          | (intro hc; (try simp [hnt, Try.ntmps98, Try.results98, anW9898] at hc); done)
          | (intro hc; (try simp [hnt, Try.ntmps98, Try.results98, anW9898] at hc); (first | (exfalso; omega) | skip))
          | (refine callP_mk (hpq) ?_; try simp [hnt, Try.ntmps98, Try.results98, anW9898])
          | (refine callP_wk (hpq) ?_ ?_; (· (simp; done)); try simp [hnt, Try.ntmps98, Try.results98, anW9898])
          | (refine ⟨?_, ?_⟩; · omega)
          | omega
          | apply_assumption -exfalso -symm
          | (exfalso; omega)))
    · rw [hepq] at hpq hs
      simp only [if_true, List.append_nil] at hs
      (repeat (first
          | (refine DW_seq fun K hK => ?_)
          | (refine DW_r anW9898 Try.mixed (by kernel_rfl) ?_; simp [hnt, Try.ntmps98, Try.results98, anW9898, dProd, hlt, hq', hp', hp, hq, hk0, hwr, hb1, hb2]; try simp (disch := omega) only [wrap64_in])
          | (refine DW_block ?_)
          | (focus (refine DW_if ?_ ?_ ?_; (· (simp [hnt, Try.ntmps98, Try.results98, anW9898, dProd, hlt, hq', hp', hp, hq, hk0, hwr, hb1, hb2]; done)); (try (rotate_left; (· (intro hc; (try simp [hnt, Try.ntmps98, Try.results98, anW9898, dProd, hlt, hq', hp', hp, hq, hk0, hwr, hb1, hb2] at hc); done))))))
          | (refine DW_ret ?_; simp [hnt, Try.ntmps98, Try.results98, anW9898, dProd, hlt, hq', hp', hp, hq, hk0, hwr, hb1, hb2])
          | (refine DW_exit ?_; simp [hnt, Try.ntmps98, Try.results98, anW9898, dProd, hlt, hq', hp', hp, hq, hk0, hwr, hb1, hb2])
          | (refine DW_skip ?_; simp [hnt, Try.ntmps98, Try.results98, anW9898, dProd, hlt, hq', hp', hp, hq, hk0, hwr, hb1, hb2])
          | (intro hc; (try simp [hnt, Try.ntmps98, Try.results98, anW9898, dProd, hlt, hq', hp', hp, hq, hk0, hwr, hb1, hb2] at hc); done)
          | (intro hc; (try simp [hnt, Try.ntmps98, Try.results98, anW9898, dProd, hlt, hq', hp', hp, hq, hk0, hwr, hb1, hb2] at hc); (first | (exfalso; omega) | skip))
          | (refine callP_mk (hpq) ?_; try simp [hnt, Try.ntmps98, Try.results98, anW9898, dProd, hlt, hq', hp', hp, hq, hk0, hwr, hb1, hb2])
          | (refine callP_wk (hpq) ?_ ?_; (· (simp; done)); try simp [hnt, Try.ntmps98, Try.results98, anW9898, dProd, hlt, hq', hp', hp, hq, hk0, hwr, hb1, hb2])
          | (refine ⟨?_, ?_⟩; · omega)
          | omega
          | apply_assumption -exfalso -symm
          | (exfalso; omega)))
      clear hwr hk0 hb1 hb2
      refine DW_loop (X := {x : Nat × Nat × List Prod // 1 ≤ x.1 ∧ k + x.1 ≤ l.length ∧ x.2.1 < k + x.1 ∧ k ≤ x.2.1 ∧ x.2.2.length = l.length ∧ x.2.2.take x.2.1 = compL e (l.take (k + x.1)) ∧ ∀ j, k + x.1 ≤ j + 1 → x.2.2[j]? = l[j]?}) (fun x => ⟨[(0, .osl 0 0), (1, .fn (.func g) [] []), (5, .int .i64 x.1.2.1), (6, .vw 0 0 2 32 k (l.length - k)), (7, .int .i64 x.1.1)], [⟨0, 0, .row 33 2 32 (x.1.2.2.map dProd)⟩]⟩) (fun x => l.length - x.1.1)
        ⟨(1, k, l), show 1 ≤ 1 ∧ k + 1 ≤ l.length ∧ k < k + 1 ∧ k ≤ k ∧ l.length = l.length ∧ l.take k = compL e (l.take (k + 1)) ∧ (∀ j, k + 1 ≤ j + 1 → l[j]? = l[j]?) from ⟨by omega, by omega, by omega, by omega, rfl, by rw [hs, hck], fun _ _ => rfl⟩⟩ (Sub.lit (by simp)) ?_
      rintro ⟨⟨m, kk, R⟩, x1, x2, x3, x4, x5, x6, x7⟩
      simp only at x1 x2 x3 x4 x5 x6 x7 ⊢
      have hv : k + (l.length - k) ≤ l.length := by omega
      by_cases hm : m < l.length - k
      · obtain ⟨y, hy, hy', hym⟩ := at_lt' (show k + m < l.length by omega)
        obtain ⟨z, hz, hz', hzm⟩ := at_lt' (show k + m - 1 < l.length by omega)
        obtain ⟨c0, hc0, _, _⟩ := at_lt' (show kk < R.length by omega)
        have hRy : R[k + m]? = some y := by rw [x7 _ (by omega)]; exact hy
        have hRz : R[k + (m - 1)]? = some z := by rw [x7 _ (by omega), show k + (m - 1) = k + m - 1 by omega]; exact hz
        have hRy' : R[k + m]'(by omega) = y := (List.getElem?_eq_some_iff.1 hRy).2
        have hRz' : R[k + (m - 1)]'(by omega) = z := (List.getElem?_eq_some_iff.1 hRz).2
        have hyz := he y hym z hzm
        simp only [dProd] at hyz
        have hwr : IntKind.i64.wrap ((m : Int) - 1) = (m : Int) - 1 := wrap64_in (by omega) (by omega)
        have hk0 : ((m : Int) - 1).toNat = m - 1 := by omega
        have hb1 : (0 : Int) ≤ (m : Int) - 1 := by omega
        have hb2 : (m : Int) - 1 < ((l.length - k : Nat) : Int) := by omega
        have hs2 := compL_snoc (e := e) (by omega) hz hy
        rw [← x6] at hs2
        have hkk : kk < l.length := by omega
        cases heyz : e y z
        · rw [heyz] at hyz hs2
          simp only [Bool.false_eq_true, if_false] at hs2
          (repeat (first
              | (refine DW_seq fun K hK => ?_)
              | (refine DW_r anW9898 Try.mixed (by kernel_rfl) ?_; simp [hnt, Try.ntmps98, Try.results98, anW9898, dProd, hm, hRy, hRz, hRy', hRz', hk0, hwr, hb1, hb2, x5, hv, hc0, hkk]; try simp (disch := omega) only [wrap64_in])
              | (refine DW_block ?_)
              | (focus (refine DW_if ?_ ?_ ?_; (· (simp [hnt, Try.ntmps98, Try.results98, anW9898, dProd, hm, hRy, hRz, hRy', hRz', hk0, hwr, hb1, hb2, x5, hv, hc0, hkk]; done)); (try (rotate_left; (· (intro hc; (try simp [hnt, Try.ntmps98, Try.results98, anW9898, dProd, hm, hRy, hRz, hRy', hRz', hk0, hwr, hb1, hb2, x5, hv, hc0, hkk] at hc); done))))))
              | (refine DW_ret ?_; simp [hnt, Try.ntmps98, Try.results98, anW9898, dProd, hm, hRy, hRz, hRy', hRz', hk0, hwr, hb1, hb2, x5, hv, hc0, hkk])
              | (refine DW_exit ?_; simp [hnt, Try.ntmps98, Try.results98, anW9898, dProd, hm, hRy, hRz, hRy', hRz', hk0, hwr, hb1, hb2, x5, hv, hc0, hkk])
              | (refine DW_skip ?_; simp [hnt, Try.ntmps98, Try.results98, anW9898, dProd, hm, hRy, hRz, hRy', hRz', hk0, hwr, hb1, hb2, x5, hv, hc0, hkk])
              | (intro hc; (try simp [hnt, Try.ntmps98, Try.results98, anW9898, dProd, hm, hRy, hRz, hRy', hRz', hk0, hwr, hb1, hb2, x5, hv, hc0, hkk] at hc); done)
              | (intro hc; (try simp [hnt, Try.ntmps98, Try.results98, anW9898, dProd, hm, hRy, hRz, hRy', hRz', hk0, hwr, hb1, hb2, x5, hv, hc0, hkk] at hc); (first | (exfalso; omega) | skip))
              | (refine callP_mk (hyz) ?_; try simp [hnt, Try.ntmps98, Try.results98, anW9898, dProd, hm, hRy, hRz, hRy', hRz', hk0, hwr, hb1, hb2, x5, hv, hc0, hkk])
              | (refine callP_wk (hyz) ?_ ?_; (· (simp; done)); try simp [hnt, Try.ntmps98, Try.results98, anW9898, dProd, hm, hRy, hRz, hRy', hRz', hk0, hwr, hb1, hb2, x5, hv, hc0, hkk])
              | (refine ⟨?_, ?_⟩; · omega)
              | omega
              | apply_assumption -exfalso -symm
              | (exfalso; omega)))
          refine Again.mk ⟨(m + 1, kk + 1, R.set kk y), show 1 ≤ m + 1 ∧ k + (m + 1) ≤ l.length ∧ kk + 1 < k + (m + 1) ∧ k ≤ kk + 1 ∧ (R.set kk y).length = l.length ∧ (R.set kk y).take (kk + 1) = compL e (l.take (k + (m + 1))) ∧ (∀ j, k + (m + 1) ≤ j + 1 → (R.set kk y)[j]? = l[j]?) from ⟨by omega, by omega, by omega, by omega, by simp [x5], ?_, fun j hj => ?_⟩⟩ (Sub.lit ?_) (by simp; omega)
          · rw [show k + (m + 1) = k + m + 1 by omega, hs2, List.take_add_one, List.getElem?_set_self (by omega), List.take_set_of_le (by omega)]
            rfl
          · rw [List.getElem?_set_ne (by omega)]
            exact x7 j (by omega)
          · have hm0 : mxR ((R.map dProd).set kk [.int .i64 y.head, dSyms y.body]) = 0 := by
              rw [show (R.map dProd).set kk [.int .i64 y.head, dSyms y.body] = (R.set kk y).map dProd by simp [List.map_set, dProd]]
              exact mx_dProds _
            simp [List.map_set, dProd, hm0]
          (repeat (first
              | (refine DW_seq fun K hK => ?_)
              | (refine DW_r anW9898 Try.mixed (by kernel_rfl) ?_; simp [hnt, Try.ntmps98, Try.results98, anW9898]; try simp (disch := omega) only [wrap64_in])
              | (refine DW_block ?_)
              | (focus (refine DW_if ?_ ?_ ?_; (· (simp [hnt, Try.ntmps98, Try.results98, anW9898]; done)); (try (rotate_left; (· (intro hc; (try simp [hnt, Try.ntmps98, Try.results98, anW9898] at hc); done))))))
              | (refine DW_ret ?_; simp [hnt, Try.ntmps98, Try.results98, anW9898])
              | (refine DW_exit ?_; simp [hnt, Try.ntmps98, Try.results98, anW9898])
              | (refine DW_skip ?_; simp [hnt, Try.ntmps98, Try.results98, anW9898])
              | (intro hc; (try simp [hnt, Try.ntmps98, Try.results98, anW9898] at hc); done)
              | (intro hc; (try simp [hnt, Try.ntmps98, Try.results98, anW9898] at hc); (first | (exfalso; omega) | skip))
              | (refine callP_mk (hyz) ?_; try simp [hnt, Try.ntmps98, Try.results98, anW9898])
              | (refine callP_wk (hyz) ?_ ?_; (· (simp; done)); try simp [hnt, Try.ntmps98, Try.results98, anW9898])
              | (refine ⟨?_, ?_⟩; · omega)
              | omega
              | apply_assumption -exfalso -symm
              | (exfalso; omega)))
        · rw [heyz] at hyz hs2
          simp only [if_true, List.append_nil] at hs2
          (repeat (first
              | (refine DW_seq fun K hK => ?_)
              | (refine DW_r anW9898 Try.mixed (by kernel_rfl) ?_; simp [hnt, Try.ntmps98, Try.results98, anW9898, dProd, hm, hRy, hRz, hRy', hRz', hk0, hwr, hb1, hb2, x5, hv, hc0, hkk]; try simp (disch := omega) only [wrap64_in])
              | (refine DW_block ?_)
              | (focus (refine DW_if ?_ ?_ ?_; (· (simp [hnt, Try.ntmps98, Try.results98, anW9898, dProd, hm, hRy, hRz, hRy', hRz', hk0, hwr, hb1, hb2, x5, hv, hc0, hkk]; done)); (try (rotate_left; (· (intro hc; (try simp [hnt, Try.ntmps98, Try.results98, anW9898, dProd, hm, hRy, hRz, hRy', hRz', hk0, hwr, hb1, hb2, x5, hv, hc0, hkk] at hc); done))))))
              | (refine DW_ret ?_; simp [hnt, Try.ntmps98, Try.results98, anW9898, dProd, hm, hRy, hRz, hRy', hRz', hk0, hwr, hb1, hb2, x5, hv, hc0, hkk])
              | (refine DW_exit ?_; simp [hnt, Try.ntmps98, Try.results98, anW9898, dProd, hm, hRy, hRz, hRy', hRz', hk0, hwr, hb1, hb2, x5, hv, hc0, hkk])
              | (refine DW_skip ?_; simp [hnt, Try.ntmps98, Try.results98, anW9898, dProd, hm, hRy, hRz, hRy', hRz', hk0, hwr, hb1, hb2, x5, hv, hc0, hkk])
              | (intro hc; (try simp [hnt, Try.ntmps98, Try.results98, anW9898, dProd, hm, hRy, hRz, hRy', hRz', hk0, hwr, hb1, hb2, x5, hv, hc0, hkk] at hc); done)
              | (intro hc; (try simp [hnt, Try.ntmps98, Try.results98, anW9898, dProd, hm, hRy, hRz, hRy', hRz', hk0, hwr, hb1, hb2, x5, hv, hc0, hkk] at hc); (first | (exfalso; omega) | skip))
              | (refine callP_mk (hyz) ?_; try simp [hnt, Try.ntmps98, Try.results98, anW9898, dProd, hm, hRy, hRz, hRy', hRz', hk0, hwr, hb1, hb2, x5, hv, hc0, hkk])
              | (refine callP_wk (hyz) ?_ ?_; (· (simp; done)); try simp [hnt, Try.ntmps98, Try.results98, anW9898, dProd, hm, hRy, hRz, hRy', hRz', hk0, hwr, hb1, hb2, x5, hv, hc0, hkk])
              | (refine ⟨?_, ?_⟩; · omega)
              | omega
              | apply_assumption -exfalso -symm
              | (exfalso; omega)))
          refine Again.mk ⟨(m + 1, kk, R), show 1 ≤ m + 1 ∧ k + (m + 1) ≤ l.length ∧ kk < k + (m + 1) ∧ k ≤ kk ∧ R.length = l.length ∧ R.take kk = compL e (l.take (k + (m + 1))) ∧ (∀ j, k + (m + 1) ≤ j + 1 → R[j]? = l[j]?) from ⟨by omega, by omega, by omega, by omega, x5, by rw [show k + (m + 1) = k + m + 1 by omega, hs2], fun j hj => x7 j (by omega)⟩⟩ (Sub.lit (by simp)) (by simp; omega)
          (repeat (first
              | (refine DW_seq fun K hK => ?_)
              | (refine DW_r anW9898 Try.mixed (by kernel_rfl) ?_; simp [hnt, Try.ntmps98, Try.results98, anW9898]; try simp (disch := omega) only [wrap64_in])
              | (refine DW_block ?_)
              | (focus (refine DW_if ?_ ?_ ?_; (· (simp [hnt, Try.ntmps98, Try.results98, anW9898]; done)); (try (rotate_left; (· (intro hc; (try simp [hnt, Try.ntmps98, Try.results98, anW9898] at hc); done))))))
              | (refine DW_ret ?_; simp [hnt, Try.ntmps98, Try.results98, anW9898])
              | (refine DW_exit ?_; simp [hnt, Try.ntmps98, Try.results98, anW9898])
              | (refine DW_skip ?_; simp [hnt, Try.ntmps98, Try.results98, anW9898])
              | (intro hc; (try simp [hnt, Try.ntmps98, Try.results98, anW9898] at hc); done)
              | (intro hc; (try simp [hnt, Try.ntmps98, Try.results98, anW9898] at hc); (first | (exfalso; omega) | skip))
              | (refine callP_mk (hyz) ?_; try simp [hnt, Try.ntmps98, Try.results98, anW9898])
              | (refine callP_wk (hyz) ?_ ?_; (· (simp; done)); try simp [hnt, Try.ntmps98, Try.results98, anW9898])
              | (refine ⟨?_, ?_⟩; · omega)
              | omega
              | apply_assumption -exfalso -symm
              | (exfalso; omega)))
      · have hkm : k + m = l.length := by omega
        have hcl1 : (clearD (R.map dProd) kk (l.length - kk) [.int .i64 0, .nilsl]).length = l.length := by simp [clearD]; omega
        have hcl2 : (clearD (R.map dProd) kk (l.length - kk) [.int .i64 0, .nilsl]).take kk = R0.map dProd := by
          have e1 : l.take (k + m) = l := by rw [hkm, List.take_length]
          rw [e1] at x6
          rw [hR0, ← x6]
          simp only [clearD]
          rw [List.append_assoc, List.take_append_of_le_length (by simp; omega), List.take_take, Nat.min_self, List.map_take]
        have hkl : kk ≤ l.length := by omega
        (repeat (first
            | (refine DW_seq fun K hK => ?_)
            | (refine DW_r anW9898 Try.mixed (by kernel_rfl) ?_; simp [hnt, Try.ntmps98, Try.results98, anW9898, hm, x5, hv, hcl1, hcl2, hkl]; try simp (disch := omega) only [wrap64_in])
            | (refine DW_block ?_)
            | (focus (refine DW_if ?_ ?_ ?_; (· (simp [hnt, Try.ntmps98, Try.results98, anW9898, hm, x5, hv, hcl1, hcl2, hkl]; done)); (try (rotate_left; (· (intro hc; (try simp [hnt, Try.ntmps98, Try.results98, anW9898, hm, x5, hv, hcl1, hcl2, hkl] at hc); done))))))
            | (refine DW_ret ?_; simp [hnt, Try.ntmps98, Try.results98, anW9898, hm, x5, hv, hcl1, hcl2, hkl])
            | (refine DW_exit ?_; simp [hnt, Try.ntmps98, Try.results98, anW9898, hm, x5, hv, hcl1, hcl2, hkl])
            | (refine DW_skip ?_; simp [hnt, Try.ntmps98, Try.results98, anW9898, hm, x5, hv, hcl1, hcl2, hkl])
            | (intro hc; (try simp [hnt, Try.ntmps98, Try.results98, anW9898, hm, x5, hv, hcl1, hcl2, hkl] at hc); done)
            | (intro hc; (try simp [hnt, Try.ntmps98, Try.results98, anW9898, hm, x5, hv, hcl1, hcl2, hkl] at hc); (first | (exfalso; omega) | skip))
            | (refine callP_mk (hyz) ?_; try simp [hnt, Try.ntmps98, Try.results98, anW9898, hm, x5, hv, hcl1, hcl2, hkl])
            | (refine callP_wk (hyz) ?_ ?_; (· (simp; done)); try simp [hnt, Try.ntmps98, Try.results98, anW9898, hm, x5, hv, hcl1, hcl2, hkl])
            | (refine ⟨?_, ?_⟩; · omega)
            | omega
            | apply_assumption -exfalso -symm
            | (exfalso; omega)))
  · have hkk : k = l.length := by omega
    subst hkk
    rw [List.take_length] at hck
    rw [hck] at hR0
    (repeat (first
        | (refine DW_seq fun K hK => ?_)
        | (refine DW_r anW9898 Try.mixed (by kernel_rfl) ?_; simp [hnt, Try.ntmps98, Try.results98, anW9898, hR0]; try simp (disch := omega) only [wrap64_in])
        | (refine DW_block ?_)
        | (focus (refine DW_if ?_ ?_ ?_; (· (simp [hnt, Try.ntmps98, Try.results98, anW9898, hR0]; done)); (try (rotate_left; (· (intro hc; (try simp [hnt, Try.ntmps98, Try.results98, anW9898, hR0] at hc); done))))))
        | (refine DW_ret ?_; simp [hnt, Try.ntmps98, Try.results98, anW9898, hR0])
        | (refine DW_exit ?_; simp [hnt, Try.ntmps98, Try.results98, anW9898, hR0])
        | (refine DW_skip ?_; simp [hnt, Try.ntmps98, Try.results98, anW9898, hR0])
        | (intro hc; (try simp [hnt, Try.ntmps98, Try.results98, anW9898, hR0] at hc); done)
        | (intro hc; (try simp [hnt, Try.ntmps98, Try.results98, anW9898, hR0] at hc); (first | (exfalso; omega) | skip))
        | (refine callP_mk (hyz) ?_; try simp [hnt, Try.ntmps98, Try.results98, anW9898, hR0])
        | (refine callP_wk (hyz) ?_ ?_; (· (simp; done)); try simp [hnt, Try.ntmps98, Try.results98, anW9898, hR0])
        | (refine ⟨?_, ?_⟩; · omega)
        | omega
        | apply_assumption -exfalso -symm
        | (exfalso; omega)))
end Go.Proofs.Ytihkcegelghcpaa
end

section
/- Sorted once: insertion tells the same as sorting and leaving out what is twice. Plain Lean. -/


set_option linter.unusedSimpArgs false
set_option linter.unusedVariables false
namespace Go.Proofs.Ytihkcegelghcpaa
open Go Go.Dm

def insC {α : Type} (c : α → α → Int) : List α → α → List α
  | [], p => [p]
  | x :: l, p => if c x p < 0 then x :: insC c l p else if c p x < 0 then p :: x :: l else x :: l
theorem insC_ne {α : Type} {c : α → α → Int} (l : List α) (p : α) : insC c l p ≠ [] := by
  cases l with
  | nil => simp [insC]
  | cons x l => simp only [insC]; split <;> (try split) <;> simp
theorem mem_insC {α : Type} {c : α → α → Int} (h : OrdC c) {p z : α} : ∀ {l : List α}, z ∈ insC c l p ↔ z = p ∨ z ∈ l
  | [] => by simp [insC]
  | x :: l => by
    have ih := mem_insC h (p := p) (z := z) (l := l)
    simp only [insC]
    split
    · rw [List.mem_cons, ih, List.mem_cons]
      exact ⟨fun hh => by rcases hh with a | a | a <;> simp [a], fun hh => by rcases hh with a | a | a <;> simp [a]⟩
    · rename_i h1
      split
      · simp only [List.mem_cons]
      · rename_i h2
        have := h.le_anti h1 h2
        subst this
        simp only [List.mem_cons]
        exact ⟨.inr, fun hh => by
          rcases hh with a | a
          · exact .inl a
          · exact a⟩
def strictC {α : Type} (c : α → α → Int) (l : List α) : Prop := l.Pairwise (fun x y => c x y < 0)
theorem insC_strict {α : Type} {c : α → α → Int} (h : OrdC c) {p : α} : ∀ {l : List α}, strictC c l → strictC c (insC c l p)
  | [], _ => by simp [insC, strictC]
  | x :: l, hs => by
    obtain ⟨h1, h2⟩ := List.pairwise_cons.1 hs
    simp only [insC]
    split
    · rename_i hx
      refine List.pairwise_cons.2 ⟨fun z hz => ?_, insC_strict h h2⟩
      rcases (mem_insC h).1 hz with rfl | hz
      · exact hx
      · exact h1 z hz
    · split
      · rename_i hx
        refine List.pairwise_cons.2 ⟨fun z hz => ?_, hs⟩
        rcases List.mem_cons.1 hz with rfl | hz
        · exact hx
        · exact h.trans _ _ _ hx (h1 z hz)
      · exact hs
theorem fold_strict {α : Type} {c : α → α → Int} (h : OrdC c) : ∀ (l a : List α), strictC c a → strictC c (l.foldl (insC c) a) ∧ ∀ z, z ∈ l.foldl (insC c) a ↔ z ∈ l ∨ z ∈ a
  | [], a, ha => ⟨ha, by simp⟩
  | x :: l, a, ha => by
    obtain ⟨h1, h2⟩ := fold_strict h l (insC c a x) (insC_strict h ha)
    refine ⟨h1, fun z => ?_⟩
    rw [List.foldl_cons, h2, mem_insC h, List.mem_cons]
    exact ⟨fun hh => by rcases hh with q | q | q <;> simp [q], fun hh => by rcases hh with (q | q) | q <;> simp [q]⟩
theorem strict_irr {α : Type} {c : α → α → Int} (h : OrdC c) {x : α} : ¬ c x x < 0 := by rw [h.refl]; omega
theorem strict_eq {α : Type} {c : α → α → Int} (h : OrdC c) : ∀ {a b : List α}, strictC c a → strictC c b → (∀ z, z ∈ a ↔ z ∈ b) → a = b
  | [], [], _, _, _ => rfl
  | [], y :: b, _, _, hm => by have := (hm y).2 List.mem_cons_self; simp at this
  | x :: a, [], _, _, hm => by have := (hm x).1 List.mem_cons_self; simp at this
  | x :: a, y :: b, ha, hb, hm => by
    obtain ⟨a1, a2⟩ := List.pairwise_cons.1 ha
    obtain ⟨b1, b2⟩ := List.pairwise_cons.1 hb
    have hxy : x = y := by
      rcases List.mem_cons.1 ((hm x).1 List.mem_cons_self) with h1 | h1
      · exact h1
      · rcases List.mem_cons.1 ((hm y).2 List.mem_cons_self) with h2 | h2
        · exact h2.symm
        · exact absurd (h.trans _ _ _ (a1 y h2) (b1 x h1)) (strict_irr h)
    subst hxy
    rw [strict_eq h a2 b2 fun z => ?_]
    constructor
    · intro hz
      rcases List.mem_cons.1 ((hm z).1 (List.mem_cons_of_mem _ hz)) with h1 | h1
      · subst h1; exact absurd (a1 z hz) (strict_irr h)
      · exact h1
    · intro hz
      rcases List.mem_cons.1 ((hm z).2 (List.mem_cons_of_mem _ hz)) with h1 | h1
      · subst h1; exact absurd (b1 z hz) (strict_irr h)
      · exact h1

theorem compGo_strict {α : Type} {c : α → α → Int} (h : OrdC c) : ∀ {l : List α} {p : α}, (p :: l).Pairwise (fun x y => ¬ c y x < 0) → strictC c (p :: compGo (fun x y => c x y == 0) p l) ∧ ∀ z, z ∈ p :: compGo (fun x y => c x y == 0) p l ↔ z ∈ p :: l
  | [], p, _ => by simp [compGo, strictC]
  | y :: l, p, hs => by
    obtain ⟨h1, h2⟩ := List.pairwise_cons.1 hs
    obtain ⟨i1, i2⟩ := compGo_strict h h2
    simp only [compGo]
    split
    · rename_i he
      have : y = p := (h.eq0 _ _).1 (by simpa using he)
      subst this
      exact ⟨i1, fun z => by rw [i2]; simp⟩
    · rename_i he
      have hne : y ≠ p := fun hh => he (by subst hh; simp [h.refl])
      have hlt : c p y < 0 := by
        rcases h.nle.1 (h1 y List.mem_cons_self) with h3 | h3
        · exact h3
        · exact absurd h3 hne
      refine ⟨List.pairwise_cons.2 ⟨fun z hz => ?_, i1⟩, fun z => ?_⟩
      · obtain ⟨j1, _⟩ := List.pairwise_cons.1 i1
        rcases List.mem_cons.1 hz with rfl | hz
        · exact hlt
        · exact h.trans _ _ _ hlt (j1 z hz)
      · have := i2 z
        rw [List.mem_cons, this]
        simp [List.mem_cons]
theorem compL_strict {α : Type} {c : α → α → Int} (h : OrdC c) {l : List α} (hs : l.Pairwise (fun x y => ¬ c y x < 0)) : strictC c (compL (fun x y => c x y == 0) l) ∧ ∀ z, z ∈ compL (fun x y => c x y == 0) l ↔ z ∈ l := by
  cases l with
  | nil => simp [compL, strictC]
  | cons x l => exact compGo_strict h hs

/-- THE LAW: insertion one by one = sorted, and what is twice left out -/
theorem fold_ins {α : Type} {c : α → α → Int} (h : OrdC c) (l : List α) : l.foldl (insC c) [] = compL (fun x y => c x y == 0) (sortC c l) := by
  obtain ⟨h1, h2⟩ := fold_strict h l [] List.Pairwise.nil
  obtain ⟨h3, h4⟩ := compL_strict h (sortC_sorted h l)
  refine strict_eq h h1 h3 fun z => ?_
  rw [h2, h4, (sortC_perm c l).mem_iff]
  simp
theorem strict_sorted {α : Type} {c : α → α → Int} (h : OrdC c) {l : List α} (hs : strictC c l) : l.Pairwise (fun x y => ¬ c y x < 0) := by
  refine hs.imp fun {x y} hxy => ?_
  have := (h.anti x y).1 hxy
  omega
/-- sorted once is sorted for good -/
theorem norm_idem {α : Type} {c : α → α → Int} (h : OrdC c) (l : List α) : compL (fun x y => c x y == 0) (sortC c (compL (fun x y => c x y == 0) (sortC c l))) = compL (fun x y => c x y == 0) (sortC c l) := by
  obtain ⟨h3, h4⟩ := compL_strict h (sortC_sorted h l)
  obtain ⟨h5, h6⟩ := compL_strict h (sortC_sorted h (compL (fun x y => c x y == 0) (sortC c l)))
  refine strict_eq h h5 h3 fun z => ?_
  rw [h6, (sortC_perm c _).mem_iff]
theorem compGo_len {α : Type} {e : α → α → Bool} : ∀ (l : List α) (p : α), (compGo e p l).length ≤ l.length
  | [], _ => by simp [compGo]
  | y :: l, p => by
    have := compGo_len (e := e) l y
    simp only [compGo]
    split <;> simp <;> omega
theorem compL_len {α : Type} {e : α → α → Bool} (l : List α) : (compL e l).length ≤ l.length := by
  cases l with
  | nil => simp [compL]
  | cons x l => have := compGo_len (e := e) l x; simp [compL]; omega
end Go.Proofs.Ytihkcegelghcpaa
end

section
/- Weak normal form: what a maker does. Plain Lean. -/




set_option linter.unusedSimpArgs false
set_option linter.unusedVariables false
namespace Go.Proofs.Ytihkcegelghcpaa
open Go Go.Dm

def nS (n : Int) : Sym := ⟨false, n⟩
def lookA : List (Int × Int) → Int → Option Int
  | [], _ => none
  | (k, h) :: l, a => if a = k then some h else lookA l a
/-- a letter's nonterminal; a nonterminal is its own -/
def Mk.sym (m : Mk) (s : Sym) : Mk × Int :=
  if s.label then match lookA m.hs s.n with
    | some h => (m, h)
    | none => ({ m with nts := m.nts + 1, hs := m.hs ++ [(s.n, m.nts)], prods := m.prods ++ [⟨m.nts, [s]⟩] }, m.nts)
  else (m, s.n)
def Mk.syms (m : Mk) : List Sym → Mk × List Int
  | [] => (m, [])
  | s :: l => (((m.sym s).1.syms l).1, (m.sym s).2 :: ((m.sym s).1.syms l).2)
def chainP (nts head : Int) : List Int → List Prod
  | [] => []
  | [_] => []
  | [a, b] => [⟨head, [nS a, nS b]⟩]
  | a :: b :: c :: r => ⟨head, [nS a, nS nts]⟩ :: chainP (nts + 1) nts (b :: c :: r)
def Mk.chain (m : Mk) (h : Int) (ns : List Int) : Mk := { m with nts := m.nts + (ns.length - 2 : Nat), prods := m.prods ++ chainP m.nts h ns }
def Mk.add (m : Mk) (p : Prod) : Mk :=
  if formOf p.body = 1 ∨ formOf p.body = 2 then m.put p.head p.body
  else if p.body.length = 1 then (m.syms p.body).1.nothing.chain p.head ((m.syms p.body).2 ++ [(m.syms p.body).1.nothing.no])
  else (m.syms p.body).1.chain p.head (m.syms p.body).2
/-- one production after the other, till there are too many nonterminals -/
def Mk.adds : Mk → List Prod → Option Mk
  | m, [] => some m
  | m, p :: l => if 1024 < (m.add p).nts then none else (m.add p).adds l

theorem syms_len (m : Mk) (l : List Sym) : (m.syms l).2.length = l.length := by
  induction l generalizing m with
  | nil => rfl
  | cons s l ih => simp [Mk.syms, ih]
theorem chainP_len : ∀ (l : List Int) (nts head : Int), (chainP nts head l).length = l.length - 1
  | [], _, _ => rfl
  | [_], _, _ => rfl
  | [_, _], _, _ => rfl
  | _ :: b :: c :: r, _, _ => by simp [chainP, chainP_len (b :: c :: r)]
/-- as many productions more as nonterminals -/
def Mk.gap (m : Mk) : Int := (m.prods.length : Int) - m.nts
theorem sym_gap (m : Mk) (s : Sym) : (m.sym s).1.gap = m.gap ∧ m.nts ≤ (m.sym s).1.nts ∧ (m.sym s).1.nts ≤ m.nts + 1 := by
  unfold Mk.sym
  split
  · split
    · exact ⟨rfl, Int.le_refl _, Int.le_add_of_nonneg_right (by decide)⟩
    · simp only [Mk.gap, List.length_append, List.length_cons, List.length_nil]
      exact ⟨by omega, by omega, by omega⟩
  · exact ⟨rfl, Int.le_refl _, Int.le_add_of_nonneg_right (by decide)⟩
theorem syms_gap (l : List Sym) : ∀ (m : Mk), (m.syms l).1.gap = m.gap ∧ m.nts ≤ (m.syms l).1.nts ∧ (m.syms l).1.nts ≤ m.nts + l.length := by
  induction l with
  | nil => intro m; simp [Mk.syms]
  | cons s l ih =>
    intro m
    obtain ⟨h1, h2, h3⟩ := sym_gap m s
    obtain ⟨h4, h5, h6⟩ := ih (m.sym s).1
    simp only [Mk.syms, List.length_cons]
    exact ⟨by omega, by omega, by omega⟩
theorem nothing_gap (m : Mk) : m.nothing.gap = m.gap ∧ m.nts ≤ m.nothing.nts ∧ m.nothing.nts ≤ m.nts + 1 := by
  unfold Mk.nothing
  split
  · simp only [Mk.gap, List.length_append, List.length_cons, List.length_nil]
    exact ⟨by omega, by omega, by omega⟩
  · exact ⟨rfl, Int.le_refl _, Int.le_add_of_nonneg_right (by decide)⟩
theorem chain_gap (m : Mk) (h : Int) (ns : List Int) (hl : 2 ≤ ns.length) : (m.chain h ns).gap = m.gap + 1 ∧ (m.chain h ns).nts = m.nts + ns.length - 2 := by
  simp only [Mk.chain, Mk.gap, List.length_append, chainP_len]
  exact ⟨by omega, by omega⟩
theorem form_two {l : List Sym} (h1 : ¬ formOf l = 1) (h2 : ¬ formOf l = 2) : 1 ≤ l.length := by
  cases l with
  | nil => exact absurd rfl h1
  | cons s l => simp
theorem add_gap (m : Mk) (p : Prod) : (m.add p).gap = m.gap + 1 ∧ m.nts ≤ (m.add p).nts ∧ (m.nts + p.body.length - 2 ≤ (m.add p).nts) ∧ (m.add p).nts ≤ m.nts + 2 * p.body.length + 1 := by
  obtain ⟨h1, h2, h3⟩ := syms_gap p.body m
  have h0 := syms_len m p.body
  unfold Mk.add
  split
  · rename_i hf
    have hl : p.body.length ≤ 1 := by
      match hb : p.body with
      | [] => simp
      | [s] => simp
      | [s, t] => rw [hb] at hf; simp only [formOf] at hf; split at hf <;> simp at hf
      | s :: t :: u :: r => rw [hb] at hf; simp [formOf] at hf
    simp only [Mk.put, Mk.gap, List.length_append, List.length_cons, List.length_nil]
    exact ⟨by omega, by omega, by omega, by omega⟩
  · rename_i hf
    have hl := form_two (fun h => hf (.inl h)) (fun h => hf (.inr h))
    split
    · rename_i h4
      obtain ⟨g1, g2, g3⟩ := nothing_gap (m.syms p.body).1
      obtain ⟨c1, c2⟩ := chain_gap (m.syms p.body).1.nothing p.head ((m.syms p.body).2 ++ [(m.syms p.body).1.nothing.no]) (by simp; omega)
      simp only [List.length_append, List.length_cons, List.length_nil] at c2
      exact ⟨by omega, by omega, by omega, by omega⟩
    · obtain ⟨c1, c2⟩ := chain_gap (m.syms p.body).1 p.head (m.syms p.body).2 (by omega)
      exact ⟨by omega, by omega, by omega, by omega⟩
end Go.Proofs.Ytihkcegelghcpaa
end

section
/- A part of a proof: walks over the functions that it names; their contracts hold for every argument. -/

set_option linter.unusedSimpArgs false
set_option linter.unusedVariables false
namespace Go.Proofs.Ytihkcegelghcpaa
open Go Go.Dm
attribute [local irreducible] DW callP callS
def anW4747 : Ann := ⟨[], [⟨4, [7], [], []⟩]⟩
set_option maxRecDepth 100000 in
/-- with, where what is done to each body leaves it -/
theorem with_same (g : FuncId) (hdo : ∀ l : List Sym, DPure Try.prog g [dSyms l] (.tup [])) (c : Cnf) : DPure Try.prog 47 [.agg (dCnf c), .fn (.func g) [] []] (.agg (dCnf c)) := by
  refine DPure_introF [32] (fn := Try.f47) Try.func47 rfl Try.call47 (by simp [Try.ntmps47]) (by simp [mx]) ?_
  intro hwf B hnt
  have hw : wCnf c := w_cnf (by simpa [wfL, wfD] using hwf.1)
  obtain ⟨hw1, hw2, hw3, hw4⟩ := hw
  clear hwf
  simp only [argS]
  (repeat (first
      | (refine DW_seq fun K hK => ?_)
      | (refine DW_r anW4747 Try.mixed (by kernel_rfl) ?_; simp [hnt, Try.ntmps47, Try.results47, anW4747, dCnf]; try simp (disch := omega) only [wrap64_in])
      | (refine DW_block ?_)
      | (focus (refine DW_if ?_ ?_ ?_; (· (simp [hnt, Try.ntmps47, Try.results47, anW4747, dCnf]; done)); (try (rotate_left; (· (intro hc; (try simp [hnt, Try.ntmps47, Try.results47, anW4747, dCnf] at hc); done))))))
      | (refine DW_ret ?_; simp [hnt, Try.ntmps47, Try.results47, anW4747, dCnf])
      | (refine DW_exit ?_; simp [hnt, Try.ntmps47, Try.results47, anW4747, dCnf])
      | (refine DW_skip ?_; simp [hnt, Try.ntmps47, Try.results47, anW4747, dCnf])
      | (intro hc; (try simp [hnt, Try.ntmps47, Try.results47, anW4747, dCnf] at hc); done)
      | (intro hc; (try simp [hnt, Try.ntmps47, Try.results47, anW4747, dCnf] at hc); (first | (exfalso; omega) | skip))
      | (refine ⟨?_, ?_⟩; · omega)
      | omega
      | apply_assumption -exfalso -symm
      | (exfalso; omega)))
  refine DW_adoptC 5 1 32 33 2 32 (by simp) (fun n => ?_)
  refine DW_loop (X := {k : Nat // k ≤ c.prods.length}) (fun k => ⟨[(1, .fn (.func g) [] []), (4, .bx 4 1 0), (5, .bx 5 1 0), (13, dProds c.prods), (14, .int .i64 c.prods.length), (15, .int .i64 k.1)], [⟨4, 1, .box [.int .i64 0, .nilsl]⟩, ⟨5, 1, .box [.int .i64 c.nts, .osl 32 1]⟩, ⟨32, 1, .row 33 2 32 ((c.prods.take k.1).map dProd)⟩]⟩) (fun k => c.prods.length - k.1) ⟨0, by simp⟩ (Sub.lit (by simp)) ?_
  rintro ⟨k, hk⟩
  by_cases hlt : k < c.prods.length
  · obtain ⟨p, hp, hp', hpm⟩ := at_lt' hlt
    obtain ⟨hw5, hw6, hw7, hw8⟩ := hw4 p hpm
    have htk : (c.prods.map dProd).take (k + 1) = (c.prods.map dProd).take k ++ [dProd p] := by rw [List.take_add_one, List.getElem?_map, hp]; rfl
    have h1 := clone_pure p.body
    have h2 := hdo p.body
    (repeat (first
        | (refine DW_seq fun K hK => ?_)
        | (refine DW_r anW4747 Try.mixed (by kernel_rfl) ?_; simp [hnt, Try.ntmps47, Try.results47, anW4747, dCnf, dProd, hlt, hp']; try simp (disch := omega) only [wrap64_in])
        | (refine DW_block ?_)
        | (focus (refine DW_if ?_ ?_ ?_; (· (simp [hnt, Try.ntmps47, Try.results47, anW4747, dCnf, dProd, hlt, hp']; done)); (try (rotate_left; (· (intro hc; (try simp [hnt, Try.ntmps47, Try.results47, anW4747, dCnf, dProd, hlt, hp'] at hc); done))))))
        | (refine DW_ret ?_; simp [hnt, Try.ntmps47, Try.results47, anW4747, dCnf, dProd, hlt, hp'])
        | (refine DW_exit ?_; simp [hnt, Try.ntmps47, Try.results47, anW4747, dCnf, dProd, hlt, hp'])
        | (refine DW_skip ?_; simp [hnt, Try.ntmps47, Try.results47, anW4747, dCnf, dProd, hlt, hp'])
        | (intro hc; (try simp [hnt, Try.ntmps47, Try.results47, anW4747, dCnf, dProd, hlt, hp'] at hc); done)
        | (intro hc; (try simp [hnt, Try.ntmps47, Try.results47, anW4747, dCnf, dProd, hlt, hp'] at hc); (first | (exfalso; omega) | skip))
        | (refine callP_mk (h1) ?_; try simp [hnt, Try.ntmps47, Try.results47, anW4747, dCnf, dProd, hlt, hp'])
        | (refine callP_wk (h1) ?_ ?_; (· (simp; done)); try simp [hnt, Try.ntmps47, Try.results47, anW4747, dCnf, dProd, hlt, hp'])
        | (refine callP_mk (h2) ?_; try simp [hnt, Try.ntmps47, Try.results47, anW4747, dCnf, dProd, hlt, hp'])
        | (refine callP_wk (h2) ?_ ?_; (· (simp; done)); try simp [hnt, Try.ntmps47, Try.results47, anW4747, dCnf, dProd, hlt, hp'])
        | (refine ⟨?_, ?_⟩; · omega)
        | omega
        | apply_assumption -exfalso -symm
        | (exfalso; omega)))
    refine Again.mk ⟨k + 1, by omega⟩ (Sub.lit ?_) (by simp; omega)
    · simp [htk, dProd]
    (repeat (first
        | (refine DW_seq fun K hK => ?_)
        | (refine DW_r anW4747 Try.mixed (by kernel_rfl) ?_; simp [hnt, Try.ntmps47, Try.results47, anW4747]; try simp (disch := omega) only [wrap64_in])
        | (refine DW_block ?_)
        | (focus (refine DW_if ?_ ?_ ?_; (· (simp [hnt, Try.ntmps47, Try.results47, anW4747]; done)); (try (rotate_left; (· (intro hc; (try simp [hnt, Try.ntmps47, Try.results47, anW4747] at hc); done))))))
        | (refine DW_ret ?_; simp [hnt, Try.ntmps47, Try.results47, anW4747])
        | (refine DW_exit ?_; simp [hnt, Try.ntmps47, Try.results47, anW4747])
        | (refine DW_skip ?_; simp [hnt, Try.ntmps47, Try.results47, anW4747])
        | (intro hc; (try simp [hnt, Try.ntmps47, Try.results47, anW4747] at hc); done)
        | (intro hc; (try simp [hnt, Try.ntmps47, Try.results47, anW4747] at hc); (first | (exfalso; omega) | skip))
        | (refine callP_mk (h1) ?_; try simp [hnt, Try.ntmps47, Try.results47, anW4747])
        | (refine callP_wk (h1) ?_ ?_; (· (simp; done)); try simp [hnt, Try.ntmps47, Try.results47, anW4747])
        | (refine callP_mk (h2) ?_; try simp [hnt, Try.ntmps47, Try.results47, anW4747])
        | (refine callP_wk (h2) ?_ ?_; (· (simp; done)); try simp [hnt, Try.ntmps47, Try.results47, anW4747])
        | (refine ⟨?_, ?_⟩; · omega)
        | omega
        | apply_assumption -exfalso -symm
        | (exfalso; omega)))
  · have hkk : k = c.prods.length := by omega
    subst hkk
    (repeat (first
        | (refine DW_seq fun K hK => ?_)
        | (refine DW_r anW4747 Try.mixed (by kernel_rfl) ?_; simp [hnt, Try.ntmps47, Try.results47, anW4747, dCnf]; try simp (disch := omega) only [wrap64_in])
        | (refine DW_block ?_)
        | (focus (refine DW_if ?_ ?_ ?_; (· (simp [hnt, Try.ntmps47, Try.results47, anW4747, dCnf]; done)); (try (rotate_left; (· (intro hc; (try simp [hnt, Try.ntmps47, Try.results47, anW4747, dCnf] at hc); done))))))
        | (refine DW_ret ?_; simp [hnt, Try.ntmps47, Try.results47, anW4747, dCnf])
        | (refine DW_exit ?_; simp [hnt, Try.ntmps47, Try.results47, anW4747, dCnf])
        | (refine DW_skip ?_; simp [hnt, Try.ntmps47, Try.results47, anW4747, dCnf])
        | (intro hc; (try simp [hnt, Try.ntmps47, Try.results47, anW4747, dCnf] at hc); done)
        | (intro hc; (try simp [hnt, Try.ntmps47, Try.results47, anW4747, dCnf] at hc); (first | (exfalso; omega) | skip))
        | (refine ⟨?_, ?_⟩; · omega)
        | omega
        | apply_assumption -exfalso -symm
        | (exfalso; omega)))
def anW4748 : Ann := ⟨[], []⟩
set_option maxRecDepth 100000 in
theorem heads1_pure (l : List Sym) : DPure Try.prog 48 [dSyms l] (.tup []) := by
  refine DPure_introF [] (fn := Try.f48) Try.func48 rfl Try.call48 (by simp [Try.ntmps48]) (by simp [mx]) ?_
  intro hwf B hnt
  simp only [argS]
  (repeat (first
      | (refine DW_seq fun K hK => ?_)
      | (refine DW_r anW4748 Try.mixed (by kernel_rfl) ?_; simp [hnt, Try.ntmps48, Try.results48, anW4748]; try simp (disch := omega) only [wrap64_in])
      | (refine DW_block ?_)
      | (focus (refine DW_if ?_ ?_ ?_; (· (simp [hnt, Try.ntmps48, Try.results48, anW4748]; done)); (try (rotate_left; (· (intro hc; (try simp [hnt, Try.ntmps48, Try.results48, anW4748] at hc); done))))))
      | (refine DW_ret ?_; simp [hnt, Try.ntmps48, Try.results48, anW4748])
      | (refine DW_exit ?_; simp [hnt, Try.ntmps48, Try.results48, anW4748])
      | (refine DW_skip ?_; simp [hnt, Try.ntmps48, Try.results48, anW4748])
      | (intro hc; (try simp [hnt, Try.ntmps48, Try.results48, anW4748] at hc); done)
      | (intro hc; (try simp [hnt, Try.ntmps48, Try.results48, anW4748] at hc); (first | (exfalso; omega) | skip))
      | (refine ⟨?_, ?_⟩; · omega)
      | omega
      | apply_assumption -exfalso -symm
      | (exfalso; omega)))
def anW4720 : Ann := ⟨[2], []⟩
set_option maxRecDepth 100000 in
theorem heads_pure (c : Cnf) (nt : Int) : DPure Try.prog 20 [.agg (dCnf c), .int .i64 nt] (.fn (.func 49) [] [.ref (dCnf c), .ref [.int .i64 nt]]) := by
  refine DPure_introF [2] (fn := Try.f20) Try.func20 rfl Try.call20 (by simp [Try.ntmps20]) (by simp [mx]) ?_
  intro hwf B hnt
  simp only [argS]
  have h1 := with_same _ heads1_pure c
  (repeat (first
      | (refine DW_seq fun K hK => ?_)
      | (refine DW_r anW4720 Try.mixed (by kernel_rfl) ?_; simp [hnt, Try.ntmps20, Try.results20, anW4720, dCnf]; try simp (disch := omega) only [wrap64_in])
      | (refine DW_block ?_)
      | (focus (refine DW_if ?_ ?_ ?_; (· (simp [hnt, Try.ntmps20, Try.results20, anW4720, dCnf]; done)); (try (rotate_left; (· (intro hc; (try simp [hnt, Try.ntmps20, Try.results20, anW4720, dCnf] at hc); done))))))
      | (refine DW_ret ?_; simp [hnt, Try.ntmps20, Try.results20, anW4720, dCnf])
      | (refine DW_exit ?_; simp [hnt, Try.ntmps20, Try.results20, anW4720, dCnf])
      | (refine DW_skip ?_; simp [hnt, Try.ntmps20, Try.results20, anW4720, dCnf])
      | (intro hc; (try simp [hnt, Try.ntmps20, Try.results20, anW4720, dCnf] at hc); done)
      | (intro hc; (try simp [hnt, Try.ntmps20, Try.results20, anW4720, dCnf] at hc); (first | (exfalso; omega) | skip))
      | (refine callP_mk (h1) ?_; try simp [hnt, Try.ntmps20, Try.results20, anW4720, dCnf])
      | (refine callP_wk (h1) ?_ ?_; (· (simp; done)); try simp [hnt, Try.ntmps20, Try.results20, anW4720, dCnf])
      | (refine ⟨?_, ?_⟩; · omega)
      | omega
      | apply_assumption -exfalso -symm
      | (exfalso; omega)))
end Go.Proofs.Ytihkcegelghcpaa
end

section
/- The data machine, second make, part Y: slices.SortFunc at structs, by the shelf's contract, as a contract on own rows. -/


set_option linter.unusedSimpArgs false
set_option linter.unusedVariables false
namespace Go.Dm
open Go.Shelf Go.Sort Go.Proofs

theorem upd_grow {w w' : World} (h : Upd [] w w') : ∃ q os, w' = grow (w.drewN q) os := by
  refine ⟨w'.drawn - w.drawn, w'.heap.extract w.heap.size w'.heap.size, ?_⟩
  obtain ⟨heap, tape, drawn, os, output⟩ := w'
  obtain ⟨h1, h2, h3, h4, h5, h6⟩ := h
  simp only at h1 h2 h3 h4 h5 h6 ⊢
  subst h1; subst h2; subst h3
  have e1 : w.heap ++ heap.extract w.heap.size heap.size = heap := by
    apply Array.ext_getElem?
    intro i
    by_cases hi : i < w.heap.size
    · rw [Array.getElem?_append_left hi, ← h6 i hi (by simp)]
    · rw [Array.getElem?_append_right (by omega), Array.getElem?_extract]
      by_cases hi2 : i < heap.size
      · rw [if_pos (by omega)]
        congr 1
        omega
      · rw [if_neg (by omega), Array.getElem?_eq_none (by omega)]
  have e2 : w.drawn + (drawn - w.drawn) = drawn := by omega
  simp [grow, World.drewN, e1, e2]

section
variable {P : Program} {ρ : Ren} {g : FuncId} {et k cap b : Nat} {cs : List DVal} {cs' : Array Value} {cf : List DVal → List DVal → Int} {es es' : List (List DVal)} {cu0 : Cur} {M1 : List Nat} {w : World} {arr : Array Value}

theorem sortWorld_at {α : Type} [Inhabited α] (enc : α → List Value) (p3 : w.heap[b]? = some (.cells arr et (0, 0))) (m : Nat) (os : Array Obj) (dk : Array α) :
    (sortWorldK enc k w b 0 m dk os).heap[b]? = some (.cells (putCells id 0 (flatK enc k dk) arr) et (0, 0)) ∧ (∀ q, q < w.heap.size → q ≠ b → (sortWorldK enc k w b 0 m dk os).heap[q]? = w.heap[q]?) ∧ w.heap.size ≤ (sortWorldK enc k w b 0 m dk os).heap.size ∧
        (sortWorldK enc k w b 0 m dk os).os = w.os ∧ (sortWorldK enc k w b 0 m dk os).tape = w.tape ∧ (sortWorldK enc k w b 0 m dk os).output = w.output ∧ w.drawn ≤ (sortWorldK enc k w b 0 m dk os).drawn := by
  have hblk : b < w.heap.size := (Array.getElem?_eq_some_iff.1 p3).1
  refine ⟨?_, fun q hq hqb => ?_, ?_, rfl, rfl, rfl, Nat.le_add_right _ _⟩
  · simp only [sortWorldK, grow, putRowK, putRow, mapBlock, ahead]
    rw [Array.getElem?_append_left (by simpa using hblk), Array.getElem?_modify]
    simp [p3, onCells]
  · simp only [sortWorldK, grow, putRowK, putRow, mapBlock, ahead]
    rw [Array.getElem?_append_left (by simpa using hq), Array.getElem?_modify]
    rw [if_neg (fun h => hqb h.symm)]
    rfl
  · simp [sortWorldK, grow, putRowK, putRow, mapBlock, ahead]

/-- the cells of the row that is sorted -/
theorem putCells_at {α : Type} [Inhabited α] {enc : α → List Value} (hlen : ∀ x, (enc x).length = k) {dk : Array α} {i p : Nat} (hi : i < dk.size) (hp : p < k) (hsz : dk.size * k ≤ arr.size) :
    (putCells id 0 (flatK enc k dk) arr)[i * k + p]? = (enc dk[i]!)[p]? := by
  have hrow := mul_lt_row (k := k) hi
  have hlt : i * k + p < arr.size := by omega
  have hdiv : (i * k + p) / k = i := by
    rw [Nat.mul_comm, Nat.mul_add_div (by omega), Nat.div_eq_of_lt hp]; omega
  have hmod : (i * k + p) % k = p := by rw [Nat.mul_comm, Nat.mul_add_mod]; exact Nat.mod_eq_of_lt hp
  have hlf : i * k + p < dk.size * k := by omega
  have hpe : p < (enc dk[i]!).length := by rw [hlen]; exact hp
  simp only [putCells, Nat.zero_add, Array.getElem?_mapIdx, Array.getElem?_eq_getElem hlt, Option.map_some, Nat.zero_le, true_and, size_flatK, hlf, if_true, Nat.sub_zero, id]
  rw [get_flatK _ _ _ _ hlf, hdiv, hmod, getElem!_pos (enc dk[i]!) p hpe, List.getElem?_eq_getElem hpe]

theorem sort_core {α : Type} [Inhabited α] (L : SlLaysF0.n6 P ρ) (dt : α → List DVal) (enc : α → List Value) (d : Array α) (hag : tAgg P (ρ.t 24) = some true) (hcl : tCells P (ρ.t 24) = some k) (hcs : mxL cs = 0) (hes : ∀ x ∈ es, mxL x = 0)
    (hdt : ∀ x, dt x ∈ es) (hdk : ∀ x, (dt x).length = k) (hrd : ∀ x, rdV cu0 M1 w.heap (dt x) (enc x)) (hone : ∀ x, ∀ u ∈ enc x, u.oneCell' = true) (hdsz : d.size = es.length)
    (hd : ∀ i (hi : i < es.length), dt d[i]! = es[i] ∧ ∀ (q : Nat) (v : Value), (enc d[i]!)[q]? = some v → arr[i * k + q]? = some v)
    (p3 : w.heap[b]? = some (.cells arr et (0, 0))) (hcap : es.length * k ≤ arr.size) (hbM : b ∈ M1) (hMlt : ∀ q ∈ M1, q < w.heap.size) (hcsr : rdV cu0 M1 w.heap cs cs'.toList) (hlt : es.length < 4611686018427387904)
    (hg : Enters P g) (hcmp : ∀ x ∈ es, ∀ y ∈ es, DPure P g (.agg x :: .agg y :: cs) (.int .i64 (cf x y)))
    (hirr : ∀ x ∈ es, ¬ cf x x < 0) (htr : ∀ x ∈ es, ∀ y ∈ es, ∀ z ∈ es, cf x y < 0 → cf y z < 0 → cf x z < 0) (hnt : ∀ x ∈ es, ∀ y ∈ es, ∀ z ∈ es, ¬ cf x y < 0 → ¬ cf y z < 0 → ¬ cf x z < 0)
    (huniq : ∀ l : List (List DVal), l.Perm es → l.Pairwise (fun x y => ¬ cf y x < 0) → l = es') :
    Calls P (ρ.f 6) #[.slice (some ⟨b, 0, none⟩) es.length cap, .func (.func g) #[] cs'] w fun e w' => e = .returned (.tuple #[]) ∧ es'.length = es.length ∧ Upd [b] w w' ∧
      ∃ arr', w'.heap[b]? = some (.cells arr' et (0, 0)) ∧ arr'.size = arr.size ∧ ∀ cur M2, (∀ q ∈ M2, q ∈ M1) → rdR cur M2 w'.heap k es' arr' 0 := by
  have hlen : ∀ x : α, (enc x).length = k := fun x => by
    have := rdV_length _ _ (hrd x)
    have := hdk x
    omega
  have hO : SWO (ltOf fun x y : α => cf (dt x) (dt y)) := by
    refine ⟨fun x => ?_, fun x y z h1 h2 => ?_, fun x y z h1 h2 => ?_⟩
    · simp only [ltOf, decide_eq_false_iff_not]; exact hirr _ (hdt x)
    · simp only [ltOf, decide_eq_true_eq] at *; exact htr _ (hdt x) _ (hdt y) _ (hdt z) h1 h2
    · simp only [ltOf, decide_eq_false_iff_not] at *; exact hnt _ (hdt x) _ (hdt y) _ (hdt z) h1 h2
  have hH : HoldsK enc k w b 0 d := by
    intro j hj
    rw [size_flatK, hdsz] at hj
    have hk0 : 0 < k := by
      rcases Nat.eq_zero_or_pos k with h | h
      · subst h; simp at hj
      · exact h
    have hi : j / k < es.length := by rw [Nat.div_lt_iff_lt_mul hk0]; exact hj
    have hq : j % k < k := Nat.mod_lt _ hk0
    rw [get_flatK _ _ _ _ (by rw [hdsz]; exact hj)]
    have hq' : j % k < (enc d[j / k]!).length := by rw [hlen]; exact hq
    have hcell := (hd _ hi).2 (j % k) _ (List.getElem?_eq_getElem hq')
    rw [Nat.mul_comm, Nat.div_add_mod] at hcell
    rw [getElem!_pos (enc d[j / k]!) _ hq']
    exact ⟨by simp only [World.cell?, p3, Nat.zero_add, id]; exact hcell, by simp [World.frozen?, p3]⟩
  have hblk : b < w.heap.size := (Array.getElem?_eq_some_iff.1 p3).1
  have Wk : ∀ m os (dk : Array α) (cur : Cur) (M2 : List Nat), (∀ q ∈ M2, q ∈ M1) → Weak cu0 cur M1 M2 w.heap (sortWorldK enc k w b 0 m dk os).heap 0 := by
    intro m os dk cur M2 hM2
    have hW := sortWorld_at (et := et) (arr := arr) (k := k) enc p3 m os dk
    exact ⟨fun _ _ _ h => by omega, fun q o hq (_ : isD o = true) ho => by rw [hW.2.1 q (Array.getElem?_eq_some_iff.1 ho).1 (fun h => hq (h ▸ hbM))]; exact ho, fun q o hq (_ : isD o = true) _ hm => hq (hM2 q hm)⟩
  have hC : CmpLays P g cs' enc k (fun x y : α => cf (dt x) (dt y)) b 0 d.size w := by
    intro m os dk _ x y
    have hD := hcmp _ (hdt x) _ (hdt y)
    have hW := sortWorld_at (et := et) (arr := arr) (k := k) enc p3 m os dk
    have hx := rdV_weak (Wk m os dk (fun _ _ => none) M1 (fun _ h => h)) _ _ (Nat.le_of_eq (hes _ (hdt x))) (hrd x)
    have hy := rdV_weak (Wk m os dk (fun _ _ => none) M1 (fun _ h => h)) _ _ (Nat.le_of_eq (hes _ (hdt y))) (hrd y)
    have hc := rdV_weak (Wk m os dk (fun _ _ => none) M1 (fun _ h => h)) _ _ (Nat.le_of_eq hcs) hcsr
    obtain ⟨X, hX⟩ : ∃ X, X = (enc x).toArray := ⟨_, rfl⟩
    obtain ⟨Y, hY⟩ : ∃ Y, Y = (enc y).toArray := ⟨_, rfl⟩
    simp only [← hX, ← hY]
    generalize sortWorldK enc k w b 0 m dk os = V at hW hx hy hc ⊢
    have key := hD.2.2 (fun _ _ => none) M1 V (#[.agg X, .agg Y] ++ cs') (fun q hq => Nat.lt_of_lt_of_le (hMlt q hq) hW.2.2.1)
    refine (key ?_).mono ?_
    · have e1 : (#[Value.agg X, Value.agg Y] ++ cs').toList = Value.agg X :: Value.agg Y :: cs'.toList := by simp
      rw [e1]
      simp only [rdV]
      refine ⟨_, _, rfl, ?_, _, _, rfl, ?_, hc⟩
      · simp only [rd]; exact ⟨_, rfl, by rw [hX]; exact hx⟩
      · simp only [rd]; exact ⟨_, rfl, by rw [hY]; exact hy⟩
    · rintro e w' ⟨v, rfl, hu, hv⟩
      simp only [rd] at hv
      exact ⟨by rw [hv.1], upd_grow hu⟩
  have hrun := AnyQ.slices_SortFunc L k (run_isAgg hag) (run_sizeOf' hcl) enc hlen hone (fun x y : α => cf (dt x) (dt y)) hO g cs' b 0 cap d w hg hC hH hblk (by omega)
  rw [hdsz] at hrun
  refine hrun.mono ?_
  rintro e w' ⟨rfl, d', n, os, hP, hS, rfl⟩
  obtain ⟨hsz', _, hperm⟩ := hP
  rw [hdsz] at hsz'
  have e1 : d'.extract 0 es.length = d' := by rw [← hsz']; exact Array.extract_size
  have e2 : d.extract 0 es.length = d := by rw [← hdsz]; exact Array.extract_size
  rw [e1, e2] at hperm
  have hdes : d.toList.map dt = es := by
    apply List.ext_getElem
    · simp [hdsz]
    · intro i h1 h2
      have := (hd i h2).1
      rw [getElem!_pos d i (by omega)] at this
      simpa using this
  have hdata : d'.toList.map dt = es' := by
    refine huniq _ ?_ ?_
    · have := hperm.map dt
      rwa [hdes] at this
    · rw [List.pairwise_map, List.pairwise_iff_getElem]
      intro i j hi hj hij
      have hi' : i < d'.size := by simpa using hi
      have hj' : j < d'.size := by simpa using hj
      have := hS i j (Nat.zero_le _) hij (by omega)
      rw [getElem!_pos d' j hj', getElem!_pos d' i hi'] at this
      simpa [ltOf] using this
  have hlen' : es'.length = es.length := by rw [← hdata]; simp [hsz']
  obtain ⟨q1, q2, q3, q4, q5, q6, q7⟩ := sortWorld_at (et := et) (arr := arr) (k := k) enc p3 n os d'
  refine ⟨rfl, hlen', ⟨q4, q5, q6, q7, q3, fun q hq hn => q2 q hq (fun h => hn (by simp [h]))⟩, _, q1, by simp [putCells], fun cur M2 hM2 => ?_⟩
  refine rdR_mk _ _ _ _ fun i cs0 hi => ?_
  have hil : i < es'.length := (List.getElem?_eq_some_iff.1 hi).1
  have hid : i < d'.size := by omega
  have hcs0 : cs0 = dt d'[i]! := by
    rw [← hdata, List.getElem?_map] at hi
    rw [getElem!_pos d' i hid]
    simp [hid] at hi
    exact hi.symm
  subst hcs0
  refine ⟨hdk _, ?_⟩
  have hv := rdV_weak (Wk n os d' cur M2 hM2) _ _ (Nat.le_of_eq (hes _ (hdt _))) (hrd d'[i]!)
  have h0 := rdC_of _ _ [] [] hv (hone _)
  refine rdC_same _ _ _ _ _ (fun p hp => ?_) h0
  have hp' : p < k := by rw [hdk] at hp; exact hp
  rw [Nat.zero_add, putCells_at hlen hid hp' (by rw [hsz']; exact hcap)]
  simp
end

/-- SORTED BY A COMPARISON: what an own row holds behind is the one sorted list of its elements. -/
theorem sort_spec {P : Program} {ρ : Ren} (L : SlLaysF0.n6 P ρ) {f g : FuncId} {et k bs : Nat} {cs : List DVal} {cf : List DVal → List DVal → Int} {es es' : List (List DVal)} (hf : ρ.f 6 = f) (hen : Enters P f) (hag : tAgg P (ρ.t 24) = some true) (hcl : tCells P (ρ.t 24) = some k)
    (hbs0 : 0 < bs) (hcs : mxL cs = 0) (hes : ∀ x ∈ es, mxL x = 0) (hg : Enters P g) (hcmp : ∀ x ∈ es, ∀ y ∈ es, DPure P g (.agg x :: .agg y :: cs) (.int .i64 (cf x y)))
    (hirr : ∀ x ∈ es, ¬ cf x x < 0) (htr : ∀ x ∈ es, ∀ y ∈ es, ∀ z ∈ es, cf x y < 0 → cf y z < 0 → cf x z < 0) (hnt : ∀ x ∈ es, ∀ y ∈ es, ∀ z ∈ es, ¬ cf x y < 0 → ¬ cf y z < 0 → ¬ cf x z < 0)
    (huniq : ∀ l : List (List DVal), l.Perm es → l.Pairwise (fun x y => ¬ cf y x < 0) → l = es') :
    DSpec P (.func f) [.osl 0 0, .fn (.func g) [] cs] [⟨0, 0, .row et k bs es⟩] (.tup []) [⟨0, 0, .row et k bs es'⟩] := by
  refine ⟨by simp, hen, fun M w loc vs S hr => ?_⟩
  refine ⟨hen, ?_⟩
  simp only [rdV] at hr
  obtain ⟨v0, r0, hvs, h0, v1, r1, rfl, h1, rfl⟩ := hr
  simp only [rd] at h0 h1
  obtain ⟨us', cs', rfl, hus, hcsr⟩ := h1
  simp only [rdV] at hus
  have hus' : us' = #[] := by cases us'; simpa using hus
  subst hus'
  have hcur0 : curOf [(⟨0, 0, .row et k bs es⟩ : Ent)] loc 0 0 = some (loc 0) := rfl
  have hv0 := h0 _ hcur0
  have hvs' : vs = #[v0, .func (.func g) #[] cs'] := by cases vs; simpa using hvs
  subst hvs'
  subst hf
  have hhot : hotOf [(⟨0, 0, .row et k bs es⟩ : Ent)] loc = (loc 0).blks := by simp [hotOf]
  have hhot' : hotOf [(⟨0, 0, .row et k bs es'⟩ : Ent)] loc = (loc 0).blks := by simp [hotOf]
  have htup : ∀ cur M h, rd cur M h (.tup []) (.tuple #[]) := fun _ _ _ => by simp only [rd]; exact ⟨#[], rfl, by simp [rdV]⟩
  have hk := S.ok ⟨0, 0, .row et k bs es⟩ (by simp)
  by_cases hne : es = []
  · subst hne
    have hes' : es' = [] := (huniq [] (List.Perm.refl _) List.Pairwise.nil).symm
    subst hes'
    obtain ⟨a, cap, hh⟩ : ∃ a cap, (loc 0).hdr = .slice a 0 cap := by
      obtain ⟨_, ⟨_, _, h2⟩ | ⟨b, arr, cap, _, h2, _⟩⟩ := hk
      · exact ⟨_, _, h2⟩
      · exact ⟨_, _, h2⟩
    rw [hh] at hv0
    subst hv0
    refine (AnyF.slices_SortFunc_none { L with } a cap (.func (.func g) #[] cs') w).mono ?_
    rintro e w' ⟨rfl, rfl⟩
    exact ⟨_, rfl, loc, S, Upd.refl _ _, fun b hb => .inl hb, fun e he _ => curOf_self S.nd he, htup _ _ _⟩
  · obtain ⟨b, arr, cap, p1, p2, p3, p4, p5, p6, p7⟩ : ∃ b arr cap, (loc 0).blks = [b] ∧ (loc 0).hdr = .slice (some ⟨b, 0, none⟩) es.length cap ∧ w.heap[b]? = some (.cells arr et (0, 0)) ∧ es.length ≤ cap ∧ cap ≤ maxLen ∧ cap * k = arr.size ∧ rdR (curOf [(⟨0, 0, .row et k bs es⟩ : Ent)] loc) (hotOf [(⟨0, 0, .row et k bs es⟩ : Ent)] loc ++ M) w.heap k es arr 0 := by
      obtain ⟨_, ⟨h, _⟩ | h⟩ := hk
      · exact absurd h hne
      · exact h
    have hbs := hk.1
    rw [p2] at hv0
    subst hv0
    obtain ⟨cu0, hcu0⟩ : ∃ c, c = curOf [(⟨0, 0, .row et k bs es⟩ : Ent)] loc := ⟨_, rfl⟩
    obtain ⟨M1, hM1⟩ : ∃ m, m = hotOf [(⟨0, 0, .row et k bs es⟩ : Ent)] loc ++ M := ⟨_, rfl⟩
    rw [← hcu0, ← hM1] at p7 hcsr
    have hbM : b ∈ M1 := by rw [hM1, hhot, p1]; simp
    have hMlt : ∀ q ∈ M1, q < w.heap.size := by rw [hM1]; exact S.lt
    have hcap : es.length * k ≤ arr.size := by rw [← p6]; exact Nat.mul_le_mul_right _ p4
    have hpos : 0 < es.length := List.length_pos_iff.2 hne
    have hel : ∀ i : Fin es.length, ∃ us : List Value, rdV cu0 M1 w.heap es[i.1] us ∧ (∀ u ∈ us, u.oneCell' = true) ∧ ∀ (q : Nat) (v : Value), us[q]? = some v → arr[i.1 * k + q]? = some v := by
      intro i
      obtain ⟨q1, q2⟩ := rdR_at k es arr 0 i.1 es[i.1] p7 (List.getElem?_eq_getElem i.2)
      obtain ⟨us, g1, g2, g3⟩ := rdC_vals _ _ _ q2
      refine ⟨us, g2, fun u hu => ?_, fun q v hq => ?_⟩
      · obtain ⟨j, hj, rfl⟩ := List.getElem_of_mem hu
        exact (g3 j _ (List.getElem?_eq_getElem hj)).2
      · have := (g3 q v hq).1
        simpa using this
    haveI : Inhabited (Fin es.length) := ⟨⟨0, hpos⟩⟩
    have hlt : es.length < 4611686018427387904 := by
      have h1 : es.length * 1 ≤ es.length * bs := Nat.mul_le_mul_left _ hbs0
      have h2 : es.length * bs ≤ 150000000000000 := hbs
      omega
    have hd : ∀ i (hi : i < es.length), (Array.ofFn (fun i : Fin es.length => i))[i]! = ⟨i, hi⟩ := by
      intro i hi
      rw [getElem!_pos _ i (by simpa using hi)]
      simp
    refine (sort_core (et := et) (α := Fin es.length) L (fun i => es[i.1]) (fun i => (hel i).choose) (Array.ofFn fun i => i) hag hcl hcs hes (fun i => List.getElem_mem _) (fun i => (rdR_at k es arr 0 i.1 es[i.1] p7 (List.getElem?_eq_getElem i.2)).1) (fun i => (hel i).choose_spec.1) (fun i => (hel i).choose_spec.2.1) (by simp)
      (fun i hi => by rw [hd i hi]; exact ⟨rfl, (hel ⟨i, hi⟩).choose_spec.2.2⟩) p3 hcap hbM hMlt hcsr hlt hg hcmp hirr htr hnt huniq).mono ?_
    rintro e w' ⟨rfl, hlen', hu, arr', r1, r2, r3⟩
    have hM2 : hotOf [(⟨0, 0, .row et k bs es'⟩ : Ent)] loc ++ M = M1 := by rw [hM1, hhot, hhot']
    refine ⟨_, rfl, loc, ⟨by simp, by rw [hhot', p1]; simp, fun q hq => S.ap q (by rw [hhot]; rwa [hhot'] at hq), fun q hq => ?_, ?_⟩, by rw [hhot, p1]; exact hu, fun q hq => .inl (by rw [hhot]; rwa [hhot'] at hq), ?_, htup _ _ _⟩
    · rw [hM2] at hq; exact Nat.lt_of_lt_of_le (hMlt q hq) hu.size
    · intro e he
      simp only [List.mem_singleton] at he
      subst he
      rw [hM2]
      exact ⟨by rw [hlen']; exact hbs, .inr ⟨b, arr', cap, p1, by rw [hlen']; exact p2, r1, by omega, p5, by omega, r3 _ _ fun _ h => h⟩⟩
    · intro e he _
      simp only [List.mem_singleton] at he
      subst he
      exact hcur0
end Go.Dm
end

