/- A part of a proof: walks over the functions that it names; their contracts hold for every argument. -/
import Derived.Test.YtihkcegelghcpaaW94
set_option linter.unusedSimpArgs false
set_option linter.unusedVariables false
namespace Go.Proofs.Ytihkcegelghcpaa
open Go Go.Dm
attribute [local irreducible] DW callP callS
set_option maxRecDepth 100000

def ntOK (c : Cnf) (n : Int) : Bool := decide (0 ≤ n) && decide (n < c.nts)
def symBad (c : Cnf) (s : Sym) : Bool := s.label && (decide (s.n < 0) || decide (16 ≤ s.n)) || !s.label && !ntOK c s.n
def prodOK (c : Cnf) (p : Prod) : Bool := ntOK c p.head && !p.body.any (symBad c)
def cnfOK (c : Cnf) : Bool := decide (1 ≤ c.nts) && decide (c.nts ≤ 1024) && c.prods.all (prodOK c)

def anW2553 : Ann := ⟨[], []⟩
theorem check1_pure (c : Cnf) (n : Int) : DPure Try.prog 53 [.int .i64 n, .ref [.int .i64 c.nts, dProds c.prods]] (.bool (ntOK c n)) := by
  refine DPure_introF [] (fn := Try.f53) Try.func53 rfl Try.call53 (by simp [Try.ntmps53]) (by simp [mx]) ?_
  intro hwf B hnt
  simp only [argS]
  by_cases h1 : 0 ≤ n <;> by_cases h2 : n < c.nts <;> (repeat (first
      | (refine DW_seq fun K hK => ?_)
      | (refine DW_r anW2553 Try.mixed (by kernel_rfl) ?_; simp [hnt, Try.ntmps53, Try.results53, anW2553, h1, h2, ntOK]; try simp (disch := omega) only [wrap64_in])
      | (refine DW_block ?_)
      | (focus (refine DW_if ?_ ?_ ?_; (· (simp [hnt, Try.ntmps53, Try.results53, anW2553, h1, h2, ntOK]; done)); (try (rotate_left; (· (intro hc; (try simp [hnt, Try.ntmps53, Try.results53, anW2553, h1, h2, ntOK] at hc); done))))))
      | (refine DW_ret ?_; simp [hnt, Try.ntmps53, Try.results53, anW2553, h1, h2, ntOK])
      | (refine DW_exit ?_; simp [hnt, Try.ntmps53, Try.results53, anW2553, h1, h2, ntOK])
      | (refine DW_skip ?_; simp [hnt, Try.ntmps53, Try.results53, anW2553, h1, h2, ntOK])
      | (intro hc; (try simp [hnt, Try.ntmps53, Try.results53, anW2553, h1, h2, ntOK] at hc); done)
      | (intro hc; (try simp [hnt, Try.ntmps53, Try.results53, anW2553, h1, h2, ntOK] at hc); (first | (exfalso; omega) | skip))
      | (refine ⟨?_, ?_⟩; · omega)
      | omega
      | apply_assumption -exfalso -symm
      | (exfalso; omega)))

abbrev dNt (c : Cnf) : DVal := .fn (.func 53) [] [.ref [.int .i64 c.nts, dProds c.prods]]

def anW2555 : Ann := ⟨[], []⟩
theorem check2_pure (c : Cnf) (s : Sym) : DPure Try.prog 55 [.agg [.bool s.label, .int .i64 s.n], .ref [dNt c]] (.bool (symBad c s)) := by
  refine DPure_introF [] (fn := Try.f55) Try.func55 rfl Try.call55 (by simp [Try.ntmps55]) (by simp [mx]) ?_
  intro hwf B hnt
  simp only [argS]
  cases hl : s.label
  · cases hb : ntOK c s.n <;> (repeat (first
      | (refine DW_seq fun K hK => ?_)
      | (refine DW_r anW2555 Try.mixed (by kernel_rfl) ?_; simp [hnt, Try.ntmps55, Try.results55, anW2555, hl, hb, symBad]; try simp (disch := omega) only [wrap64_in])
      | (refine DW_block ?_)
      | (focus (refine DW_if ?_ ?_ ?_; (· (simp [hnt, Try.ntmps55, Try.results55, anW2555, hl, hb, symBad]; done)); (try (rotate_left; (· (intro hc; (try simp [hnt, Try.ntmps55, Try.results55, anW2555, hl, hb, symBad] at hc); done))))))
      | (refine DW_ret ?_; simp [hnt, Try.ntmps55, Try.results55, anW2555, hl, hb, symBad])
      | (refine DW_exit ?_; simp [hnt, Try.ntmps55, Try.results55, anW2555, hl, hb, symBad])
      | (refine DW_skip ?_; simp [hnt, Try.ntmps55, Try.results55, anW2555, hl, hb, symBad])
      | (intro hc; (try simp [hnt, Try.ntmps55, Try.results55, anW2555, hl, hb, symBad] at hc); done)
      | (intro hc; (try simp [hnt, Try.ntmps55, Try.results55, anW2555, hl, hb, symBad] at hc); (first | (exfalso; omega) | skip))
      | (refine callP_mk (check1_pure c s.n) ?_; try simp [hnt, Try.ntmps55, Try.results55, anW2555, hl, hb, symBad])
      | (refine callP_wk (check1_pure c s.n) ?_ ?_; (· (simp; done)); try simp [hnt, Try.ntmps55, Try.results55, anW2555, hl, hb, symBad])
      | (refine ⟨?_, ?_⟩; · omega)
      | omega
      | apply_assumption -exfalso -symm
      | (exfalso; omega)))
  · by_cases h1 : s.n < 0 <;> by_cases h2 : 16 ≤ s.n <;> (repeat (first
      | (refine DW_seq fun K hK => ?_)
      | (refine DW_r anW2555 Try.mixed (by kernel_rfl) ?_; simp [hnt, Try.ntmps55, Try.results55, anW2555, hl, h1, h2, symBad]; try simp (disch := omega) only [wrap64_in])
      | (refine DW_block ?_)
      | (focus (refine DW_if ?_ ?_ ?_; (· (simp [hnt, Try.ntmps55, Try.results55, anW2555, hl, h1, h2, symBad]; done)); (try (rotate_left; (· (intro hc; (try simp [hnt, Try.ntmps55, Try.results55, anW2555, hl, h1, h2, symBad] at hc); done))))))
      | (refine DW_ret ?_; simp [hnt, Try.ntmps55, Try.results55, anW2555, hl, h1, h2, symBad])
      | (refine DW_exit ?_; simp [hnt, Try.ntmps55, Try.results55, anW2555, hl, h1, h2, symBad])
      | (refine DW_skip ?_; simp [hnt, Try.ntmps55, Try.results55, anW2555, hl, h1, h2, symBad])
      | (intro hc; (try simp [hnt, Try.ntmps55, Try.results55, anW2555, hl, h1, h2, symBad] at hc); done)
      | (intro hc; (try simp [hnt, Try.ntmps55, Try.results55, anW2555, hl, h1, h2, symBad] at hc); (first | (exfalso; omega) | skip))
      | (refine callP_mk (check1_pure c s.n) ?_; try simp [hnt, Try.ntmps55, Try.results55, anW2555, hl, h1, h2, symBad])
      | (refine callP_wk (check1_pure c s.n) ?_ ?_; (· (simp; done)); try simp [hnt, Try.ntmps55, Try.results55, anW2555, hl, h1, h2, symBad])
      | (refine ⟨?_, ?_⟩; · omega)
      | omega
      | apply_assumption -exfalso -symm
      | (exfalso; omega)))

def anW2525 : Ann := ⟨[], [⟨1, [3], [], []⟩, ⟨5, [6], [], []⟩]⟩
set_option maxHeartbeats 4000000 in
theorem check_pure (c : Cnf) : DPure Try.prog 25 [.agg (dCnf c)] (.int .i64 (if cnfOK c then 0 else 220)) := by
  refine DPure_introF [] (fn := Try.f25) Try.func25 rfl Try.call25 (by simp [Try.ntmps25]) (by simp [mx]) ?_
  intro hwf B hnt
  have hw : wCnf c := w_cnf (by simpa [wfL, wfD] using hwf.1)
  obtain ⟨hw1, hw2, hw3, hw4⟩ := hw
  clear hwf hw1
  simp only [argS]
  have hstep : ∀ k, (hk : k < c.prods.length) → (c.prods.take (k + 1)).all (prodOK c) = ((c.prods.take k).all (prodOK c) && prodOK c c.prods[k]) := by
    intro k hk
    rw [List.take_succ_eq_append_getElem hk, List.all_append]; simp
  obtain ⟨b0, hb0⟩ : ∃ b0 : Bool, b0 = (decide (1 ≤ c.nts) && decide (c.nts ≤ 1024)) := ⟨_, rfl⟩
  have hfin : cnfOK c = (b0 && c.prods.all (prodOK c)) := by rw [hb0]; rfl
  by_cases h1 : 1 ≤ c.nts <;> by_cases h2 : c.nts ≤ 1024 <;> simp only [h1, h2, decide_true, decide_false, Bool.and_true, Bool.and_false] at hb0 <;> (repeat (first
      | (refine DW_seq fun K hK => ?_)
      | (refine DW_r anW2525 Try.mixed (by kernel_rfl) ?_; simp [hnt, Try.ntmps25, Try.results25, anW2525, dCnf, h1, h2]; try simp (disch := omega) only [wrap64_in])
      | (refine DW_block ?_)
      | (focus (refine DW_if ?_ ?_ ?_; (· (simp [hnt, Try.ntmps25, Try.results25, anW2525, dCnf, h1, h2]; done)); (try (rotate_left; (· (intro hc; (try simp [hnt, Try.ntmps25, Try.results25, anW2525, dCnf, h1, h2] at hc); done))))))
      | (refine DW_ret ?_; simp [hnt, Try.ntmps25, Try.results25, anW2525, dCnf, h1, h2])
      | (refine DW_exit ?_; simp [hnt, Try.ntmps25, Try.results25, anW2525, dCnf, h1, h2])
      | (refine DW_skip ?_; simp [hnt, Try.ntmps25, Try.results25, anW2525, dCnf, h1, h2])
      | (intro hc; (try simp [hnt, Try.ntmps25, Try.results25, anW2525, dCnf, h1, h2] at hc); done)
      | (intro hc; (try simp [hnt, Try.ntmps25, Try.results25, anW2525, dCnf, h1, h2] at hc); (first | (exfalso; omega) | skip))
      | (refine ⟨?_, ?_⟩; · omega)
      | omega
      | apply_assumption -exfalso -symm
      | (exfalso; omega)))
  all_goals
    refine DW_loop (X := {k : Nat // k ≤ c.prods.length}) (fun k => ⟨[(1, .ref [.int .i64 c.nts, dProds c.prods]), (3, .ref [dNt c]), (4, .bool (b0 && (c.prods.take k.1).all (prodOK c))), (17, dProds c.prods), (18, .int .i64 c.prods.length), (19, .int .i64 k.1)], []⟩) (fun k => c.prods.length - k.1) ⟨0, by simp⟩ (Sub.lit (by simp [hb0])) ?_
    rintro ⟨k, hk⟩
    by_cases hlt : k < c.prods.length
    · obtain ⟨p, hp, hp', hpm⟩ := at_lt' hlt
      have hst := hstep k hlt
      rw [hp'] at hst
      obtain ⟨b, hb⟩ : ∃ b : Bool, b = (b0 && (c.prods.take k).all (prodOK c)) := ⟨_, rfl⟩
      have hb1 : (b0 && (c.prods.take (k + 1)).all (prodOK c)) = (b && prodOK c p) := by rw [hst, hb, Bool.and_assoc]
      have hq := containsFunc54_pure 55 [] [.ref [dNt c]] p.body (symBad c) (fun x _ => check2_pure c x)
      simp only [← hb]
      cases b
      · (repeat (first
          | (refine DW_seq fun K hK => ?_)
          | (refine DW_r anW2525 Try.mixed (by kernel_rfl) ?_; simp [hnt, Try.ntmps25, Try.results25, anW2525, dCnf, dProd, hlt, hp', hb1]; try simp (disch := omega) only [wrap64_in])
          | (refine DW_block ?_)
          | (focus (refine DW_if ?_ ?_ ?_; (· (simp [hnt, Try.ntmps25, Try.results25, anW2525, dCnf, dProd, hlt, hp', hb1]; done)); (try (rotate_left; (· (intro hc; (try simp [hnt, Try.ntmps25, Try.results25, anW2525, dCnf, dProd, hlt, hp', hb1] at hc); done))))))
          | (refine DW_ret ?_; simp [hnt, Try.ntmps25, Try.results25, anW2525, dCnf, dProd, hlt, hp', hb1])
          | (refine DW_exit ?_; simp [hnt, Try.ntmps25, Try.results25, anW2525, dCnf, dProd, hlt, hp', hb1])
          | (refine DW_skip ?_; simp [hnt, Try.ntmps25, Try.results25, anW2525, dCnf, dProd, hlt, hp', hb1])
          | (intro hc; (try simp [hnt, Try.ntmps25, Try.results25, anW2525, dCnf, dProd, hlt, hp', hb1] at hc); done)
          | (intro hc; (try simp [hnt, Try.ntmps25, Try.results25, anW2525, dCnf, dProd, hlt, hp', hb1] at hc); (first | (exfalso; omega) | skip))
          | (refine callP_mk (check1_pure c p.head) ?_; try simp [hnt, Try.ntmps25, Try.results25, anW2525, dCnf, dProd, hlt, hp', hb1])
          | (refine callP_wk (check1_pure c p.head) ?_ ?_; (· (simp; done)); try simp [hnt, Try.ntmps25, Try.results25, anW2525, dCnf, dProd, hlt, hp', hb1])
          | (refine callP_mk (hq) ?_; try simp [hnt, Try.ntmps25, Try.results25, anW2525, dCnf, dProd, hlt, hp', hb1])
          | (refine callP_wk (hq) ?_ ?_; (· (simp; done)); try simp [hnt, Try.ntmps25, Try.results25, anW2525, dCnf, dProd, hlt, hp', hb1])
          | (refine ⟨?_, ?_⟩; · omega)
          | omega
          | apply_assumption -exfalso -symm
          | (exfalso; omega)))
        refine Again.mk ⟨k + 1, by omega⟩ (Sub.lit (by simp [hb1])) (by simp; omega)
        (repeat (first
            | (refine DW_seq fun K hK => ?_)
            | (refine DW_r anW2525 Try.mixed (by kernel_rfl) ?_; simp [hnt, Try.ntmps25, Try.results25, anW2525]; try simp (disch := omega) only [wrap64_in])
            | (refine DW_block ?_)
            | (focus (refine DW_if ?_ ?_ ?_; (· (simp [hnt, Try.ntmps25, Try.results25, anW2525]; done)); (try (rotate_left; (· (intro hc; (try simp [hnt, Try.ntmps25, Try.results25, anW2525] at hc); done))))))
            | (refine DW_ret ?_; simp [hnt, Try.ntmps25, Try.results25, anW2525])
            | (refine DW_exit ?_; simp [hnt, Try.ntmps25, Try.results25, anW2525])
            | (refine DW_skip ?_; simp [hnt, Try.ntmps25, Try.results25, anW2525])
            | (intro hc; (try simp [hnt, Try.ntmps25, Try.results25, anW2525] at hc); done)
            | (intro hc; (try simp [hnt, Try.ntmps25, Try.results25, anW2525] at hc); (first | (exfalso; omega) | skip))
            | (refine callP_mk (check1_pure c p.head) ?_; try simp [hnt, Try.ntmps25, Try.results25, anW2525])
            | (refine callP_wk (check1_pure c p.head) ?_ ?_; (· (simp; done)); try simp [hnt, Try.ntmps25, Try.results25, anW2525])
            | (refine callP_mk (hq) ?_; try simp [hnt, Try.ntmps25, Try.results25, anW2525])
            | (refine callP_wk (hq) ?_ ?_; (· (simp; done)); try simp [hnt, Try.ntmps25, Try.results25, anW2525])
            | (refine ⟨?_, ?_⟩; · omega)
            | omega
            | apply_assumption -exfalso -symm
            | (exfalso; omega)))
      · cases hn : ntOK c p.head
        · (repeat (first
            | (refine DW_seq fun K hK => ?_)
            | (refine DW_r anW2525 Try.mixed (by kernel_rfl) ?_; simp [hnt, Try.ntmps25, Try.results25, anW2525, dCnf, dProd, hlt, hp', hb1, hn]; try simp (disch := omega) only [wrap64_in])
            | (refine DW_block ?_)
            | (focus (refine DW_if ?_ ?_ ?_; (· (simp [hnt, Try.ntmps25, Try.results25, anW2525, dCnf, dProd, hlt, hp', hb1, hn]; done)); (try (rotate_left; (· (intro hc; (try simp [hnt, Try.ntmps25, Try.results25, anW2525, dCnf, dProd, hlt, hp', hb1, hn] at hc); done))))))
            | (refine DW_ret ?_; simp [hnt, Try.ntmps25, Try.results25, anW2525, dCnf, dProd, hlt, hp', hb1, hn])
            | (refine DW_exit ?_; simp [hnt, Try.ntmps25, Try.results25, anW2525, dCnf, dProd, hlt, hp', hb1, hn])
            | (refine DW_skip ?_; simp [hnt, Try.ntmps25, Try.results25, anW2525, dCnf, dProd, hlt, hp', hb1, hn])
            | (intro hc; (try simp [hnt, Try.ntmps25, Try.results25, anW2525, dCnf, dProd, hlt, hp', hb1, hn] at hc); done)
            | (intro hc; (try simp [hnt, Try.ntmps25, Try.results25, anW2525, dCnf, dProd, hlt, hp', hb1, hn] at hc); (first | (exfalso; omega) | skip))
            | (refine callP_mk (check1_pure c p.head) ?_; try simp [hnt, Try.ntmps25, Try.results25, anW2525, dCnf, dProd, hlt, hp', hb1, hn])
            | (refine callP_wk (check1_pure c p.head) ?_ ?_; (· (simp; done)); try simp [hnt, Try.ntmps25, Try.results25, anW2525, dCnf, dProd, hlt, hp', hb1, hn])
            | (refine callP_mk (hq) ?_; try simp [hnt, Try.ntmps25, Try.results25, anW2525, dCnf, dProd, hlt, hp', hb1, hn])
            | (refine callP_wk (hq) ?_ ?_; (· (simp; done)); try simp [hnt, Try.ntmps25, Try.results25, anW2525, dCnf, dProd, hlt, hp', hb1, hn])
            | (refine ⟨?_, ?_⟩; · omega)
            | omega
            | apply_assumption -exfalso -symm
            | (exfalso; omega)))
          refine Again.mk ⟨k + 1, by omega⟩ (Sub.lit (by simp [hb1, prodOK, hn])) (by simp; omega)
          (repeat (first
              | (refine DW_seq fun K hK => ?_)
              | (refine DW_r anW2525 Try.mixed (by kernel_rfl) ?_; simp [hnt, Try.ntmps25, Try.results25, anW2525]; try simp (disch := omega) only [wrap64_in])
              | (refine DW_block ?_)
              | (focus (refine DW_if ?_ ?_ ?_; (· (simp [hnt, Try.ntmps25, Try.results25, anW2525]; done)); (try (rotate_left; (· (intro hc; (try simp [hnt, Try.ntmps25, Try.results25, anW2525] at hc); done))))))
              | (refine DW_ret ?_; simp [hnt, Try.ntmps25, Try.results25, anW2525])
              | (refine DW_exit ?_; simp [hnt, Try.ntmps25, Try.results25, anW2525])
              | (refine DW_skip ?_; simp [hnt, Try.ntmps25, Try.results25, anW2525])
              | (intro hc; (try simp [hnt, Try.ntmps25, Try.results25, anW2525] at hc); done)
              | (intro hc; (try simp [hnt, Try.ntmps25, Try.results25, anW2525] at hc); (first | (exfalso; omega) | skip))
              | (refine callP_mk (check1_pure c p.head) ?_; try simp [hnt, Try.ntmps25, Try.results25, anW2525])
              | (refine callP_wk (check1_pure c p.head) ?_ ?_; (· (simp; done)); try simp [hnt, Try.ntmps25, Try.results25, anW2525])
              | (refine callP_mk (hq) ?_; try simp [hnt, Try.ntmps25, Try.results25, anW2525])
              | (refine callP_wk (hq) ?_ ?_; (· (simp; done)); try simp [hnt, Try.ntmps25, Try.results25, anW2525])
              | (refine ⟨?_, ?_⟩; · omega)
              | omega
              | apply_assumption -exfalso -symm
              | (exfalso; omega)))
        · cases ha : p.body.any (symBad c)
          · rw [ha] at hq
            (repeat (first
                | (refine DW_seq fun K hK => ?_)
                | (refine DW_r anW2525 Try.mixed (by kernel_rfl) ?_; simp [hnt, Try.ntmps25, Try.results25, anW2525, dCnf, dProd, hlt, hp', hb1, hn, ha]; try simp (disch := omega) only [wrap64_in])
                | (refine DW_block ?_)
                | (focus (refine DW_if ?_ ?_ ?_; (· (simp [hnt, Try.ntmps25, Try.results25, anW2525, dCnf, dProd, hlt, hp', hb1, hn, ha]; done)); (try (rotate_left; (· (intro hc; (try simp [hnt, Try.ntmps25, Try.results25, anW2525, dCnf, dProd, hlt, hp', hb1, hn, ha] at hc); done))))))
                | (refine DW_ret ?_; simp [hnt, Try.ntmps25, Try.results25, anW2525, dCnf, dProd, hlt, hp', hb1, hn, ha])
                | (refine DW_exit ?_; simp [hnt, Try.ntmps25, Try.results25, anW2525, dCnf, dProd, hlt, hp', hb1, hn, ha])
                | (refine DW_skip ?_; simp [hnt, Try.ntmps25, Try.results25, anW2525, dCnf, dProd, hlt, hp', hb1, hn, ha])
                | (intro hc; (try simp [hnt, Try.ntmps25, Try.results25, anW2525, dCnf, dProd, hlt, hp', hb1, hn, ha] at hc); done)
                | (intro hc; (try simp [hnt, Try.ntmps25, Try.results25, anW2525, dCnf, dProd, hlt, hp', hb1, hn, ha] at hc); (first | (exfalso; omega) | skip))
                | (refine callP_mk (check1_pure c p.head) ?_; try simp [hnt, Try.ntmps25, Try.results25, anW2525, dCnf, dProd, hlt, hp', hb1, hn, ha])
                | (refine callP_wk (check1_pure c p.head) ?_ ?_; (· (simp; done)); try simp [hnt, Try.ntmps25, Try.results25, anW2525, dCnf, dProd, hlt, hp', hb1, hn, ha])
                | (refine callP_mk (hq) ?_; try simp [hnt, Try.ntmps25, Try.results25, anW2525, dCnf, dProd, hlt, hp', hb1, hn, ha])
                | (refine callP_wk (hq) ?_ ?_; (· (simp; done)); try simp [hnt, Try.ntmps25, Try.results25, anW2525, dCnf, dProd, hlt, hp', hb1, hn, ha])
                | (refine ⟨?_, ?_⟩; · omega)
                | omega
                | apply_assumption -exfalso -symm
                | (exfalso; omega)))
            refine Again.mk ⟨k + 1, by omega⟩ (Sub.lit (by simp [hb1, prodOK, hn, ha])) (by simp; omega)
            (repeat (first
                | (refine DW_seq fun K hK => ?_)
                | (refine DW_r anW2525 Try.mixed (by kernel_rfl) ?_; simp [hnt, Try.ntmps25, Try.results25, anW2525]; try simp (disch := omega) only [wrap64_in])
                | (refine DW_block ?_)
                | (focus (refine DW_if ?_ ?_ ?_; (· (simp [hnt, Try.ntmps25, Try.results25, anW2525]; done)); (try (rotate_left; (· (intro hc; (try simp [hnt, Try.ntmps25, Try.results25, anW2525] at hc); done))))))
                | (refine DW_ret ?_; simp [hnt, Try.ntmps25, Try.results25, anW2525])
                | (refine DW_exit ?_; simp [hnt, Try.ntmps25, Try.results25, anW2525])
                | (refine DW_skip ?_; simp [hnt, Try.ntmps25, Try.results25, anW2525])
                | (intro hc; (try simp [hnt, Try.ntmps25, Try.results25, anW2525] at hc); done)
                | (intro hc; (try simp [hnt, Try.ntmps25, Try.results25, anW2525] at hc); (first | (exfalso; omega) | skip))
                | (refine callP_mk (check1_pure c p.head) ?_; try simp [hnt, Try.ntmps25, Try.results25, anW2525])
                | (refine callP_wk (check1_pure c p.head) ?_ ?_; (· (simp; done)); try simp [hnt, Try.ntmps25, Try.results25, anW2525])
                | (refine callP_mk (hq) ?_; try simp [hnt, Try.ntmps25, Try.results25, anW2525])
                | (refine callP_wk (hq) ?_ ?_; (· (simp; done)); try simp [hnt, Try.ntmps25, Try.results25, anW2525])
                | (refine ⟨?_, ?_⟩; · omega)
                | omega
                | apply_assumption -exfalso -symm
                | (exfalso; omega)))
          · rw [ha] at hq
            (repeat (first
                | (refine DW_seq fun K hK => ?_)
                | (refine DW_r anW2525 Try.mixed (by kernel_rfl) ?_; simp [hnt, Try.ntmps25, Try.results25, anW2525, dCnf, dProd, hlt, hp', hb1, hn, ha]; try simp (disch := omega) only [wrap64_in])
                | (refine DW_block ?_)
                | (focus (refine DW_if ?_ ?_ ?_; (· (simp [hnt, Try.ntmps25, Try.results25, anW2525, dCnf, dProd, hlt, hp', hb1, hn, ha]; done)); (try (rotate_left; (· (intro hc; (try simp [hnt, Try.ntmps25, Try.results25, anW2525, dCnf, dProd, hlt, hp', hb1, hn, ha] at hc); done))))))
                | (refine DW_ret ?_; simp [hnt, Try.ntmps25, Try.results25, anW2525, dCnf, dProd, hlt, hp', hb1, hn, ha])
                | (refine DW_exit ?_; simp [hnt, Try.ntmps25, Try.results25, anW2525, dCnf, dProd, hlt, hp', hb1, hn, ha])
                | (refine DW_skip ?_; simp [hnt, Try.ntmps25, Try.results25, anW2525, dCnf, dProd, hlt, hp', hb1, hn, ha])
                | (intro hc; (try simp [hnt, Try.ntmps25, Try.results25, anW2525, dCnf, dProd, hlt, hp', hb1, hn, ha] at hc); done)
                | (intro hc; (try simp [hnt, Try.ntmps25, Try.results25, anW2525, dCnf, dProd, hlt, hp', hb1, hn, ha] at hc); (first | (exfalso; omega) | skip))
                | (refine callP_mk (check1_pure c p.head) ?_; try simp [hnt, Try.ntmps25, Try.results25, anW2525, dCnf, dProd, hlt, hp', hb1, hn, ha])
                | (refine callP_wk (check1_pure c p.head) ?_ ?_; (· (simp; done)); try simp [hnt, Try.ntmps25, Try.results25, anW2525, dCnf, dProd, hlt, hp', hb1, hn, ha])
                | (refine callP_mk (hq) ?_; try simp [hnt, Try.ntmps25, Try.results25, anW2525, dCnf, dProd, hlt, hp', hb1, hn, ha])
                | (refine callP_wk (hq) ?_ ?_; (· (simp; done)); try simp [hnt, Try.ntmps25, Try.results25, anW2525, dCnf, dProd, hlt, hp', hb1, hn, ha])
                | (refine ⟨?_, ?_⟩; · omega)
                | omega
                | apply_assumption -exfalso -symm
                | (exfalso; omega)))
            refine Again.mk ⟨k + 1, by omega⟩ (Sub.lit (by simp [hb1, prodOK, hn, ha])) (by simp; omega)
            (repeat (first
                | (refine DW_seq fun K hK => ?_)
                | (refine DW_r anW2525 Try.mixed (by kernel_rfl) ?_; simp [hnt, Try.ntmps25, Try.results25, anW2525]; try simp (disch := omega) only [wrap64_in])
                | (refine DW_block ?_)
                | (focus (refine DW_if ?_ ?_ ?_; (· (simp [hnt, Try.ntmps25, Try.results25, anW2525]; done)); (try (rotate_left; (· (intro hc; (try simp [hnt, Try.ntmps25, Try.results25, anW2525] at hc); done))))))
                | (refine DW_ret ?_; simp [hnt, Try.ntmps25, Try.results25, anW2525])
                | (refine DW_exit ?_; simp [hnt, Try.ntmps25, Try.results25, anW2525])
                | (refine DW_skip ?_; simp [hnt, Try.ntmps25, Try.results25, anW2525])
                | (intro hc; (try simp [hnt, Try.ntmps25, Try.results25, anW2525] at hc); done)
                | (intro hc; (try simp [hnt, Try.ntmps25, Try.results25, anW2525] at hc); (first | (exfalso; omega) | skip))
                | (refine callP_mk (check1_pure c p.head) ?_; try simp [hnt, Try.ntmps25, Try.results25, anW2525])
                | (refine callP_wk (check1_pure c p.head) ?_ ?_; (· (simp; done)); try simp [hnt, Try.ntmps25, Try.results25, anW2525])
                | (refine callP_mk (hq) ?_; try simp [hnt, Try.ntmps25, Try.results25, anW2525])
                | (refine callP_wk (hq) ?_ ?_; (· (simp; done)); try simp [hnt, Try.ntmps25, Try.results25, anW2525])
                | (refine ⟨?_, ?_⟩; · omega)
                | omega
                | apply_assumption -exfalso -symm
                | (exfalso; omega)))
    · have hkk : k = c.prods.length := by omega
      subst hkk
      rw [List.take_length] at *
      cases hcn : cnfOK c <;> rw [hcn] at hfin <;> (repeat (first
          | (refine DW_seq fun K hK => ?_)
          | (refine DW_r anW2525 Try.mixed (by kernel_rfl) ?_; simp [hnt, Try.ntmps25, Try.results25, anW2525, dCnf, hcn, ← hfin]; try simp (disch := omega) only [wrap64_in])
          | (refine DW_block ?_)
          | (focus (refine DW_if ?_ ?_ ?_; (· (simp [hnt, Try.ntmps25, Try.results25, anW2525, dCnf, hcn, ← hfin]; done)); (try (rotate_left; (· (intro hc; (try simp [hnt, Try.ntmps25, Try.results25, anW2525, dCnf, hcn, ← hfin] at hc); done))))))
          | (refine DW_ret ?_; simp [hnt, Try.ntmps25, Try.results25, anW2525, dCnf, hcn, ← hfin])
          | (refine DW_exit ?_; simp [hnt, Try.ntmps25, Try.results25, anW2525, dCnf, hcn, ← hfin])
          | (refine DW_skip ?_; simp [hnt, Try.ntmps25, Try.results25, anW2525, dCnf, hcn, ← hfin])
          | (intro hc; (try simp [hnt, Try.ntmps25, Try.results25, anW2525, dCnf, hcn, ← hfin] at hc); done)
          | (intro hc; (try simp [hnt, Try.ntmps25, Try.results25, anW2525, dCnf, hcn, ← hfin] at hc); (first | (exfalso; omega) | skip))
          | (refine ⟨?_, ?_⟩; · omega)
          | omega
          | apply_assumption -exfalso -symm
          | (exfalso; omega)))
end Go.Proofs.Ytihkcegelghcpaa
