/- Parts of a proof, laid together: W25, W26, W19, W14, W43, W81, W13, W45, W7, W18, W23, WS. -/
import Derived.Test.YtihkcegelghcpaaqP86
import Derived.Test.YtihkcegelghcpaaqP87
section
/- A part of a proof: walks over the functions that it names; their contracts hold for every argument. -/

set_option linter.unusedSimpArgs false
set_option linter.unusedVariables false
namespace Go.Proofs.Ytihkcegelghcpaa
open Go Go.Dm
attribute [local irreducible] DW callP callS
set_option maxRecDepth 100000

def ntOK (c : Cnf) (n : Int) : Bool := decide (0 ≤ n) && decide (n < c.nts)
def symBad (c : Cnf) (s : Sym) : Bool := s.label && (decide (s.n < 0) || decide (16 ≤ s.n)) || !s.label && !ntOK c s.n
def prodOK (c : Cnf) (p : Prod) : Bool := ntOK c p.head && !p.body.any (symBad c)
def cnfOK (c : Cnf) : Bool := decide (1 ≤ c.nts) && decide (c.nts ≤ 1024) && c.prods.all (prodOK c)

def anW2553 : Ann := ⟨[], []⟩
theorem check1_pure (c : Cnf) (n : Int) : DPure Try.prog 53 [.int .i64 n, .ref [.int .i64 c.nts, dProds c.prods]] (.bool (ntOK c n)) := by
  refine DPure_introF [] (fn := Try.f53) Try.func53 rfl Try.call53 (by simp [Try.ntmps53]) (by simp [mx]) ?_
  intro hwf B hnt
  simp only [argS]
  by_cases h1 : 0 ≤ n <;> by_cases h2 : n < c.nts <;> (repeat (first
      | (refine DW_seq fun K hK => ?_)
      | (refine DW_r anW2553 Try.mixed (by kernel_rfl) ?_; simp [hnt, Try.ntmps53, Try.results53, anW2553, h1, h2, ntOK]; try simp (disch := omega) only [wrap64_in])
      | (refine DW_block ?_)
      | (focus (refine DW_if ?_ ?_ ?_; (· (simp [hnt, Try.ntmps53, Try.results53, anW2553, h1, h2, ntOK]; done)); (try (rotate_left; (· (intro hc; (try simp [hnt, Try.ntmps53, Try.results53, anW2553, h1, h2, ntOK] at hc); done))))))
      | (refine DW_ret ?_; simp [hnt, Try.ntmps53, Try.results53, anW2553, h1, h2, ntOK])
      | (refine DW_exit ?_; simp [hnt, Try.ntmps53, Try.results53, anW2553, h1, h2, ntOK])
      | (refine DW_skip ?_; simp [hnt, Try.ntmps53, Try.results53, anW2553, h1, h2, ntOK])
      | (intro hc; (try simp [hnt, Try.ntmps53, Try.results53, anW2553, h1, h2, ntOK] at hc); done)
      | (intro hc; (try simp [hnt, Try.ntmps53, Try.results53, anW2553, h1, h2, ntOK] at hc); (first | (exfalso; omega) | skip))
      | (refine ⟨?_, ?_⟩; · omega)
      | omega
      | apply_assumption -exfalso -symm
      | (exfalso; omega)))

abbrev dNt (c : Cnf) : DVal := .fn (.func 53) [] [.ref [.int .i64 c.nts, dProds c.prods]]

def anW2555 : Ann := ⟨[], []⟩
theorem check2_pure (c : Cnf) (s : Sym) : DPure Try.prog 55 [.agg [.bool s.label, .int .i64 s.n], .ref [dNt c]] (.bool (symBad c s)) := by
  refine DPure_introF [] (fn := Try.f55) Try.func55 rfl Try.call55 (by simp [Try.ntmps55]) (by simp [mx]) ?_
  intro hwf B hnt
  simp only [argS]
  cases hl : s.label
  · cases hb : ntOK c s.n <;> (repeat (first
      | (refine DW_seq fun K hK => ?_)
      | (refine DW_r anW2555 Try.mixed (by kernel_rfl) ?_; simp [hnt, Try.ntmps55, Try.results55, anW2555, hl, hb, symBad]; try simp (disch := omega) only [wrap64_in])
      | (refine DW_block ?_)
      | (focus (refine DW_if ?_ ?_ ?_; (· (simp [hnt, Try.ntmps55, Try.results55, anW2555, hl, hb, symBad]; done)); (try (rotate_left; (· (intro hc; (try simp [hnt, Try.ntmps55, Try.results55, anW2555, hl, hb, symBad] at hc); done))))))
      | (refine DW_ret ?_; simp [hnt, Try.ntmps55, Try.results55, anW2555, hl, hb, symBad])
      | (refine DW_exit ?_; simp [hnt, Try.ntmps55, Try.results55, anW2555, hl, hb, symBad])
      | (refine DW_skip ?_; simp [hnt, Try.ntmps55, Try.results55, anW2555, hl, hb, symBad])
      | (intro hc; (try simp [hnt, Try.ntmps55, Try.results55, anW2555, hl, hb, symBad] at hc); done)
      | (intro hc; (try simp [hnt, Try.ntmps55, Try.results55, anW2555, hl, hb, symBad] at hc); (first | (exfalso; omega) | skip))
      | (refine callP_mk (check1_pure c s.n) ?_; try simp [hnt, Try.ntmps55, Try.results55, anW2555, hl, hb, symBad])
      | (refine callP_wk (check1_pure c s.n) ?_ ?_; (· (simp; done)); try simp [hnt, Try.ntmps55, Try.results55, anW2555, hl, hb, symBad])
      | (refine ⟨?_, ?_⟩; · omega)
      | omega
      | apply_assumption -exfalso -symm
      | (exfalso; omega)))
  · by_cases h1 : s.n < 0 <;> by_cases h2 : 16 ≤ s.n <;> (repeat (first
      | (refine DW_seq fun K hK => ?_)
      | (refine DW_r anW2555 Try.mixed (by kernel_rfl) ?_; simp [hnt, Try.ntmps55, Try.results55, anW2555, hl, h1, h2, symBad]; try simp (disch := omega) only [wrap64_in])
      | (refine DW_block ?_)
      | (focus (refine DW_if ?_ ?_ ?_; (· (simp [hnt, Try.ntmps55, Try.results55, anW2555, hl, h1, h2, symBad]; done)); (try (rotate_left; (· (intro hc; (try simp [hnt, Try.ntmps55, Try.results55, anW2555, hl, h1, h2, symBad] at hc); done))))))
      | (refine DW_ret ?_; simp [hnt, Try.ntmps55, Try.results55, anW2555, hl, h1, h2, symBad])
      | (refine DW_exit ?_; simp [hnt, Try.ntmps55, Try.results55, anW2555, hl, h1, h2, symBad])
      | (refine DW_skip ?_; simp [hnt, Try.ntmps55, Try.results55, anW2555, hl, h1, h2, symBad])
      | (intro hc; (try simp [hnt, Try.ntmps55, Try.results55, anW2555, hl, h1, h2, symBad] at hc); done)
      | (intro hc; (try simp [hnt, Try.ntmps55, Try.results55, anW2555, hl, h1, h2, symBad] at hc); (first | (exfalso; omega) | skip))
      | (refine callP_mk (check1_pure c s.n) ?_; try simp [hnt, Try.ntmps55, Try.results55, anW2555, hl, h1, h2, symBad])
      | (refine callP_wk (check1_pure c s.n) ?_ ?_; (· (simp; done)); try simp [hnt, Try.ntmps55, Try.results55, anW2555, hl, h1, h2, symBad])
      | (refine ⟨?_, ?_⟩; · omega)
      | omega
      | apply_assumption -exfalso -symm
      | (exfalso; omega)))

def anW2525 : Ann := ⟨[], [⟨1, [3], [], []⟩, ⟨5, [6], [], []⟩]⟩
set_option maxHeartbeats 4000000 in
theorem check_pure (c : Cnf) : DPure Try.prog 25 [.agg (dCnf c)] (.int .i64 (if cnfOK c then 0 else 220)) := by
  refine DPure_introF [] (fn := Try.f25) Try.func25 rfl Try.call25 (by simp [Try.ntmps25]) (by simp [mx]) ?_
  intro hwf B hnt
  have hw : wCnf c := w_cnf (by simpa [wfL, wfD] using hwf.1)
  obtain ⟨hw1, hw2, hw3, hw4⟩ := hw
  clear hwf hw1
  simp only [argS]
  have hstep : ∀ k, (hk : k < c.prods.length) → (c.prods.take (k + 1)).all (prodOK c) = ((c.prods.take k).all (prodOK c) && prodOK c c.prods[k]) := by
    intro k hk
    rw [List.take_succ_eq_append_getElem hk, List.all_append]; simp
  obtain ⟨b0, hb0⟩ : ∃ b0 : Bool, b0 = (decide (1 ≤ c.nts) && decide (c.nts ≤ 1024)) := ⟨_, rfl⟩
  have hfin : cnfOK c = (b0 && c.prods.all (prodOK c)) := by rw [hb0]; rfl
  by_cases h1 : 1 ≤ c.nts <;> by_cases h2 : c.nts ≤ 1024 <;> simp only [h1, h2, decide_true, decide_false, Bool.and_true, Bool.and_false] at hb0 <;> (repeat (first
      | (refine DW_seq fun K hK => ?_)
      | (refine DW_r anW2525 Try.mixed (by kernel_rfl) ?_; simp [hnt, Try.ntmps25, Try.results25, anW2525, dCnf, h1, h2]; try simp (disch := omega) only [wrap64_in])
      | (refine DW_block ?_)
      | (focus (refine DW_if ?_ ?_ ?_; (· (simp [hnt, Try.ntmps25, Try.results25, anW2525, dCnf, h1, h2]; done)); (try (rotate_left; (· (intro hc; (try simp [hnt, Try.ntmps25, Try.results25, anW2525, dCnf, h1, h2] at hc); done))))))
      | (refine DW_ret ?_; simp [hnt, Try.ntmps25, Try.results25, anW2525, dCnf, h1, h2])
      | (refine DW_exit ?_; simp [hnt, Try.ntmps25, Try.results25, anW2525, dCnf, h1, h2])
      | (refine DW_skip ?_; simp [hnt, Try.ntmps25, Try.results25, anW2525, dCnf, h1, h2])
      | (intro hc; (try simp [hnt, Try.ntmps25, Try.results25, anW2525, dCnf, h1, h2] at hc); done)
      | (intro hc; (try simp [hnt, Try.ntmps25, Try.results25, anW2525, dCnf, h1, h2] at hc); (first | (exfalso; omega) | skip))
      | (refine ⟨?_, ?_⟩; · omega)
      | omega
      | apply_assumption -exfalso -symm
      | (exfalso; omega)))
  all_goals
    refine DW_loop (X := {k : Nat // k ≤ c.prods.length}) (fun k => ⟨[(1, .ref [.int .i64 c.nts, dProds c.prods]), (3, .ref [dNt c]), (4, .bool (b0 && (c.prods.take k.1).all (prodOK c))), (17, dProds c.prods), (18, .int .i64 c.prods.length), (19, .int .i64 k.1)], []⟩) (fun k => c.prods.length - k.1) ⟨0, by simp⟩ (Sub.lit (by simp [hb0])) ?_
    rintro ⟨k, hk⟩
    by_cases hlt : k < c.prods.length
    · obtain ⟨p, hp, hp', hpm⟩ := at_lt' hlt
      have hst := hstep k hlt
      rw [hp'] at hst
      obtain ⟨b, hb⟩ : ∃ b : Bool, b = (b0 && (c.prods.take k).all (prodOK c)) := ⟨_, rfl⟩
      have hb1 : (b0 && (c.prods.take (k + 1)).all (prodOK c)) = (b && prodOK c p) := by rw [hst, hb, Bool.and_assoc]
      have hq := containsFunc54_pure 55 [] [.ref [dNt c]] p.body (symBad c) (fun x _ => check2_pure c x)
      simp only [← hb]
      cases b
      · (repeat (first
          | (refine DW_seq fun K hK => ?_)
          | (refine DW_r anW2525 Try.mixed (by kernel_rfl) ?_; simp [hnt, Try.ntmps25, Try.results25, anW2525, dCnf, dProd, hlt, hp', hb1]; try simp (disch := omega) only [wrap64_in])
          | (refine DW_block ?_)
          | (focus (refine DW_if ?_ ?_ ?_; (· (simp [hnt, Try.ntmps25, Try.results25, anW2525, dCnf, dProd, hlt, hp', hb1]; done)); (try (rotate_left; (· (intro hc; (try simp [hnt, Try.ntmps25, Try.results25, anW2525, dCnf, dProd, hlt, hp', hb1] at hc); done))))))
          | (refine DW_ret ?_; simp [hnt, Try.ntmps25, Try.results25, anW2525, dCnf, dProd, hlt, hp', hb1])
          | (refine DW_exit ?_; simp [hnt, Try.ntmps25, Try.results25, anW2525, dCnf, dProd, hlt, hp', hb1])
          | (refine DW_skip ?_; simp [hnt, Try.ntmps25, Try.results25, anW2525, dCnf, dProd, hlt, hp', hb1])
          | (intro hc; (try simp [hnt, Try.ntmps25, Try.results25, anW2525, dCnf, dProd, hlt, hp', hb1] at hc); done)
          | (intro hc; (try simp [hnt, Try.ntmps25, Try.results25, anW2525, dCnf, dProd, hlt, hp', hb1] at hc); (first | (exfalso; omega) | skip))
          | (refine callP_mk (check1_pure c p.head) ?_; try simp [hnt, Try.ntmps25, Try.results25, anW2525, dCnf, dProd, hlt, hp', hb1])
          | (refine callP_wk (check1_pure c p.head) ?_ ?_; (· (simp; done)); try simp [hnt, Try.ntmps25, Try.results25, anW2525, dCnf, dProd, hlt, hp', hb1])
          | (refine callP_mk (hq) ?_; try simp [hnt, Try.ntmps25, Try.results25, anW2525, dCnf, dProd, hlt, hp', hb1])
          | (refine callP_wk (hq) ?_ ?_; (· (simp; done)); try simp [hnt, Try.ntmps25, Try.results25, anW2525, dCnf, dProd, hlt, hp', hb1])
          | (refine ⟨?_, ?_⟩; · omega)
          | omega
          | apply_assumption -exfalso -symm
          | (exfalso; omega)))
        refine Again.mk ⟨k + 1, by omega⟩ (Sub.lit (by simp [hb1])) (by simp; omega)
        (repeat (first
            | (refine DW_seq fun K hK => ?_)
            | (refine DW_r anW2525 Try.mixed (by kernel_rfl) ?_; simp [hnt, Try.ntmps25, Try.results25, anW2525]; try simp (disch := omega) only [wrap64_in])
            | (refine DW_block ?_)
            | (focus (refine DW_if ?_ ?_ ?_; (· (simp [hnt, Try.ntmps25, Try.results25, anW2525]; done)); (try (rotate_left; (· (intro hc; (try simp [hnt, Try.ntmps25, Try.results25, anW2525] at hc); done))))))
            | (refine DW_ret ?_; simp [hnt, Try.ntmps25, Try.results25, anW2525])
            | (refine DW_exit ?_; simp [hnt, Try.ntmps25, Try.results25, anW2525])
            | (refine DW_skip ?_; simp [hnt, Try.ntmps25, Try.results25, anW2525])
            | (intro hc; (try simp [hnt, Try.ntmps25, Try.results25, anW2525] at hc); done)
            | (intro hc; (try simp [hnt, Try.ntmps25, Try.results25, anW2525] at hc); (first | (exfalso; omega) | skip))
            | (refine callP_mk (check1_pure c p.head) ?_; try simp [hnt, Try.ntmps25, Try.results25, anW2525])
            | (refine callP_wk (check1_pure c p.head) ?_ ?_; (· (simp; done)); try simp [hnt, Try.ntmps25, Try.results25, anW2525])
            | (refine callP_mk (hq) ?_; try simp [hnt, Try.ntmps25, Try.results25, anW2525])
            | (refine callP_wk (hq) ?_ ?_; (· (simp; done)); try simp [hnt, Try.ntmps25, Try.results25, anW2525])
            | (refine ⟨?_, ?_⟩; · omega)
            | omega
            | apply_assumption -exfalso -symm
            | (exfalso; omega)))
      · cases hn : ntOK c p.head
        · (repeat (first
            | (refine DW_seq fun K hK => ?_)
            | (refine DW_r anW2525 Try.mixed (by kernel_rfl) ?_; simp [hnt, Try.ntmps25, Try.results25, anW2525, dCnf, dProd, hlt, hp', hb1, hn]; try simp (disch := omega) only [wrap64_in])
            | (refine DW_block ?_)
            | (focus (refine DW_if ?_ ?_ ?_; (· (simp [hnt, Try.ntmps25, Try.results25, anW2525, dCnf, dProd, hlt, hp', hb1, hn]; done)); (try (rotate_left; (· (intro hc; (try simp [hnt, Try.ntmps25, Try.results25, anW2525, dCnf, dProd, hlt, hp', hb1, hn] at hc); done))))))
            | (refine DW_ret ?_; simp [hnt, Try.ntmps25, Try.results25, anW2525, dCnf, dProd, hlt, hp', hb1, hn])
            | (refine DW_exit ?_; simp [hnt, Try.ntmps25, Try.results25, anW2525, dCnf, dProd, hlt, hp', hb1, hn])
            | (refine DW_skip ?_; simp [hnt, Try.ntmps25, Try.results25, anW2525, dCnf, dProd, hlt, hp', hb1, hn])
            | (intro hc; (try simp [hnt, Try.ntmps25, Try.results25, anW2525, dCnf, dProd, hlt, hp', hb1, hn] at hc); done)
            | (intro hc; (try simp [hnt, Try.ntmps25, Try.results25, anW2525, dCnf, dProd, hlt, hp', hb1, hn] at hc); (first | (exfalso; omega) | skip))
            | (refine callP_mk (check1_pure c p.head) ?_; try simp [hnt, Try.ntmps25, Try.results25, anW2525, dCnf, dProd, hlt, hp', hb1, hn])
            | (refine callP_wk (check1_pure c p.head) ?_ ?_; (· (simp; done)); try simp [hnt, Try.ntmps25, Try.results25, anW2525, dCnf, dProd, hlt, hp', hb1, hn])
            | (refine callP_mk (hq) ?_; try simp [hnt, Try.ntmps25, Try.results25, anW2525, dCnf, dProd, hlt, hp', hb1, hn])
            | (refine callP_wk (hq) ?_ ?_; (· (simp; done)); try simp [hnt, Try.ntmps25, Try.results25, anW2525, dCnf, dProd, hlt, hp', hb1, hn])
            | (refine ⟨?_, ?_⟩; · omega)
            | omega
            | apply_assumption -exfalso -symm
            | (exfalso; omega)))
          refine Again.mk ⟨k + 1, by omega⟩ (Sub.lit (by simp [hb1, prodOK, hn])) (by simp; omega)
          (repeat (first
              | (refine DW_seq fun K hK => ?_)
              | (refine DW_r anW2525 Try.mixed (by kernel_rfl) ?_; simp [hnt, Try.ntmps25, Try.results25, anW2525]; try simp (disch := omega) only [wrap64_in])
              | (refine DW_block ?_)
              | (focus (refine DW_if ?_ ?_ ?_; (· (simp [hnt, Try.ntmps25, Try.results25, anW2525]; done)); (try (rotate_left; (· (intro hc; (try simp [hnt, Try.ntmps25, Try.results25, anW2525] at hc); done))))))
              | (refine DW_ret ?_; simp [hnt, Try.ntmps25, Try.results25, anW2525])
              | (refine DW_exit ?_; simp [hnt, Try.ntmps25, Try.results25, anW2525])
              | (refine DW_skip ?_; simp [hnt, Try.ntmps25, Try.results25, anW2525])
              | (intro hc; (try simp [hnt, Try.ntmps25, Try.results25, anW2525] at hc); done)
              | (intro hc; (try simp [hnt, Try.ntmps25, Try.results25, anW2525] at hc); (first | (exfalso; omega) | skip))
              | (refine callP_mk (check1_pure c p.head) ?_; try simp [hnt, Try.ntmps25, Try.results25, anW2525])
              | (refine callP_wk (check1_pure c p.head) ?_ ?_; (· (simp; done)); try simp [hnt, Try.ntmps25, Try.results25, anW2525])
              | (refine callP_mk (hq) ?_; try simp [hnt, Try.ntmps25, Try.results25, anW2525])
              | (refine callP_wk (hq) ?_ ?_; (· (simp; done)); try simp [hnt, Try.ntmps25, Try.results25, anW2525])
              | (refine ⟨?_, ?_⟩; · omega)
              | omega
              | apply_assumption -exfalso -symm
              | (exfalso; omega)))
        · cases ha : p.body.any (symBad c)
          · rw [ha] at hq
            (repeat (first
                | (refine DW_seq fun K hK => ?_)
                | (refine DW_r anW2525 Try.mixed (by kernel_rfl) ?_; simp [hnt, Try.ntmps25, Try.results25, anW2525, dCnf, dProd, hlt, hp', hb1, hn, ha]; try simp (disch := omega) only [wrap64_in])
                | (refine DW_block ?_)
                | (focus (refine DW_if ?_ ?_ ?_; (· (simp [hnt, Try.ntmps25, Try.results25, anW2525, dCnf, dProd, hlt, hp', hb1, hn, ha]; done)); (try (rotate_left; (· (intro hc; (try simp [hnt, Try.ntmps25, Try.results25, anW2525, dCnf, dProd, hlt, hp', hb1, hn, ha] at hc); done))))))
                | (refine DW_ret ?_; simp [hnt, Try.ntmps25, Try.results25, anW2525, dCnf, dProd, hlt, hp', hb1, hn, ha])
                | (refine DW_exit ?_; simp [hnt, Try.ntmps25, Try.results25, anW2525, dCnf, dProd, hlt, hp', hb1, hn, ha])
                | (refine DW_skip ?_; simp [hnt, Try.ntmps25, Try.results25, anW2525, dCnf, dProd, hlt, hp', hb1, hn, ha])
                | (intro hc; (try simp [hnt, Try.ntmps25, Try.results25, anW2525, dCnf, dProd, hlt, hp', hb1, hn, ha] at hc); done)
                | (intro hc; (try simp [hnt, Try.ntmps25, Try.results25, anW2525, dCnf, dProd, hlt, hp', hb1, hn, ha] at hc); (first | (exfalso; omega) | skip))
                | (refine callP_mk (check1_pure c p.head) ?_; try simp [hnt, Try.ntmps25, Try.results25, anW2525, dCnf, dProd, hlt, hp', hb1, hn, ha])
                | (refine callP_wk (check1_pure c p.head) ?_ ?_; (· (simp; done)); try simp [hnt, Try.ntmps25, Try.results25, anW2525, dCnf, dProd, hlt, hp', hb1, hn, ha])
                | (refine callP_mk (hq) ?_; try simp [hnt, Try.ntmps25, Try.results25, anW2525, dCnf, dProd, hlt, hp', hb1, hn, ha])
                | (refine callP_wk (hq) ?_ ?_; (· (simp; done)); try simp [hnt, Try.ntmps25, Try.results25, anW2525, dCnf, dProd, hlt, hp', hb1, hn, ha])
                | (refine ⟨?_, ?_⟩; · omega)
                | omega
                | apply_assumption -exfalso -symm
                | (exfalso; omega)))
            refine Again.mk ⟨k + 1, by omega⟩ (Sub.lit (by simp [hb1, prodOK, hn, ha])) (by simp; omega)
            (repeat (first
                | (refine DW_seq fun K hK => ?_)
                | (refine DW_r anW2525 Try.mixed (by kernel_rfl) ?_; simp [hnt, Try.ntmps25, Try.results25, anW2525]; try simp (disch := omega) only [wrap64_in])
                | (refine DW_block ?_)
                | (focus (refine DW_if ?_ ?_ ?_; (· (simp [hnt, Try.ntmps25, Try.results25, anW2525]; done)); (try (rotate_left; (· (intro hc; (try simp [hnt, Try.ntmps25, Try.results25, anW2525] at hc); done))))))
                | (refine DW_ret ?_; simp [hnt, Try.ntmps25, Try.results25, anW2525])
                | (refine DW_exit ?_; simp [hnt, Try.ntmps25, Try.results25, anW2525])
                | (refine DW_skip ?_; simp [hnt, Try.ntmps25, Try.results25, anW2525])
                | (intro hc; (try simp [hnt, Try.ntmps25, Try.results25, anW2525] at hc); done)
                | (intro hc; (try simp [hnt, Try.ntmps25, Try.results25, anW2525] at hc); (first | (exfalso; omega) | skip))
                | (refine callP_mk (check1_pure c p.head) ?_; try simp [hnt, Try.ntmps25, Try.results25, anW2525])
                | (refine callP_wk (check1_pure c p.head) ?_ ?_; (· (simp; done)); try simp [hnt, Try.ntmps25, Try.results25, anW2525])
                | (refine callP_mk (hq) ?_; try simp [hnt, Try.ntmps25, Try.results25, anW2525])
                | (refine callP_wk (hq) ?_ ?_; (· (simp; done)); try simp [hnt, Try.ntmps25, Try.results25, anW2525])
                | (refine ⟨?_, ?_⟩; · omega)
                | omega
                | apply_assumption -exfalso -symm
                | (exfalso; omega)))
          · rw [ha] at hq
            (repeat (first
                | (refine DW_seq fun K hK => ?_)
                | (refine DW_r anW2525 Try.mixed (by kernel_rfl) ?_; simp [hnt, Try.ntmps25, Try.results25, anW2525, dCnf, dProd, hlt, hp', hb1, hn, ha]; try simp (disch := omega) only [wrap64_in])
                | (refine DW_block ?_)
                | (focus (refine DW_if ?_ ?_ ?_; (· (simp [hnt, Try.ntmps25, Try.results25, anW2525, dCnf, dProd, hlt, hp', hb1, hn, ha]; done)); (try (rotate_left; (· (intro hc; (try simp [hnt, Try.ntmps25, Try.results25, anW2525, dCnf, dProd, hlt, hp', hb1, hn, ha] at hc); done))))))
                | (refine DW_ret ?_; simp [hnt, Try.ntmps25, Try.results25, anW2525, dCnf, dProd, hlt, hp', hb1, hn, ha])
                | (refine DW_exit ?_; simp [hnt, Try.ntmps25, Try.results25, anW2525, dCnf, dProd, hlt, hp', hb1, hn, ha])
                | (refine DW_skip ?_; simp [hnt, Try.ntmps25, Try.results25, anW2525, dCnf, dProd, hlt, hp', hb1, hn, ha])
                | (intro hc; (try simp [hnt, Try.ntmps25, Try.results25, anW2525, dCnf, dProd, hlt, hp', hb1, hn, ha] at hc); done)
                | (intro hc; (try simp [hnt, Try.ntmps25, Try.results25, anW2525, dCnf, dProd, hlt, hp', hb1, hn, ha] at hc); (first | (exfalso; omega) | skip))
                | (refine callP_mk (check1_pure c p.head) ?_; try simp [hnt, Try.ntmps25, Try.results25, anW2525, dCnf, dProd, hlt, hp', hb1, hn, ha])
                | (refine callP_wk (check1_pure c p.head) ?_ ?_; (· (simp; done)); try simp [hnt, Try.ntmps25, Try.results25, anW2525, dCnf, dProd, hlt, hp', hb1, hn, ha])
                | (refine callP_mk (hq) ?_; try simp [hnt, Try.ntmps25, Try.results25, anW2525, dCnf, dProd, hlt, hp', hb1, hn, ha])
                | (refine callP_wk (hq) ?_ ?_; (· (simp; done)); try simp [hnt, Try.ntmps25, Try.results25, anW2525, dCnf, dProd, hlt, hp', hb1, hn, ha])
                | (refine ⟨?_, ?_⟩; · omega)
                | omega
                | apply_assumption -exfalso -symm
                | (exfalso; omega)))
            refine Again.mk ⟨k + 1, by omega⟩ (Sub.lit (by simp [hb1, prodOK, hn, ha])) (by simp; omega)
            (repeat (first
                | (refine DW_seq fun K hK => ?_)
                | (refine DW_r anW2525 Try.mixed (by kernel_rfl) ?_; simp [hnt, Try.ntmps25, Try.results25, anW2525]; try simp (disch := omega) only [wrap64_in])
                | (refine DW_block ?_)
                | (focus (refine DW_if ?_ ?_ ?_; (· (simp [hnt, Try.ntmps25, Try.results25, anW2525]; done)); (try (rotate_left; (· (intro hc; (try simp [hnt, Try.ntmps25, Try.results25, anW2525] at hc); done))))))
                | (refine DW_ret ?_; simp [hnt, Try.ntmps25, Try.results25, anW2525])
                | (refine DW_exit ?_; simp [hnt, Try.ntmps25, Try.results25, anW2525])
                | (refine DW_skip ?_; simp [hnt, Try.ntmps25, Try.results25, anW2525])
                | (intro hc; (try simp [hnt, Try.ntmps25, Try.results25, anW2525] at hc); done)
                | (intro hc; (try simp [hnt, Try.ntmps25, Try.results25, anW2525] at hc); (first | (exfalso; omega) | skip))
                | (refine callP_mk (check1_pure c p.head) ?_; try simp [hnt, Try.ntmps25, Try.results25, anW2525])
                | (refine callP_wk (check1_pure c p.head) ?_ ?_; (· (simp; done)); try simp [hnt, Try.ntmps25, Try.results25, anW2525])
                | (refine callP_mk (hq) ?_; try simp [hnt, Try.ntmps25, Try.results25, anW2525])
                | (refine callP_wk (hq) ?_ ?_; (· (simp; done)); try simp [hnt, Try.ntmps25, Try.results25, anW2525])
                | (refine ⟨?_, ?_⟩; · omega)
                | omega
                | apply_assumption -exfalso -symm
                | (exfalso; omega)))
    · have hkk : k = c.prods.length := by omega
      subst hkk
      rw [List.take_length] at *
      cases hcn : cnfOK c <;> rw [hcn] at hfin <;> (repeat (first
          | (refine DW_seq fun K hK => ?_)
          | (refine DW_r anW2525 Try.mixed (by kernel_rfl) ?_; simp [hnt, Try.ntmps25, Try.results25, anW2525, dCnf, hcn, ← hfin]; try simp (disch := omega) only [wrap64_in])
          | (refine DW_block ?_)
          | (focus (refine DW_if ?_ ?_ ?_; (· (simp [hnt, Try.ntmps25, Try.results25, anW2525, dCnf, hcn, ← hfin]; done)); (try (rotate_left; (· (intro hc; (try simp [hnt, Try.ntmps25, Try.results25, anW2525, dCnf, hcn, ← hfin] at hc); done))))))
          | (refine DW_ret ?_; simp [hnt, Try.ntmps25, Try.results25, anW2525, dCnf, hcn, ← hfin])
          | (refine DW_exit ?_; simp [hnt, Try.ntmps25, Try.results25, anW2525, dCnf, hcn, ← hfin])
          | (refine DW_skip ?_; simp [hnt, Try.ntmps25, Try.results25, anW2525, dCnf, hcn, ← hfin])
          | (intro hc; (try simp [hnt, Try.ntmps25, Try.results25, anW2525, dCnf, hcn, ← hfin] at hc); done)
          | (intro hc; (try simp [hnt, Try.ntmps25, Try.results25, anW2525, dCnf, hcn, ← hfin] at hc); (first | (exfalso; omega) | skip))
          | (refine ⟨?_, ?_⟩; · omega)
          | omega
          | apply_assumption -exfalso -symm
          | (exfalso; omega)))
end Go.Proofs.Ytihkcegelghcpaa
end

section
/- A part of a proof: walks over the functions that it names; their contracts hold for every argument. -/


set_option linter.unusedSimpArgs false
set_option linter.unusedVariables false
namespace Go.Proofs.Ytihkcegelghcpaa
open Go Go.Dm
attribute [local irreducible] DW callP callS
set_option maxRecDepth 100000

theorem DPure_spec {P : Program} {f : FuncId} {args : List DVal} {d : DVal} (h : DPure P f args d) : DSpec P (.func f) args [] d [] := by
  refine ⟨by simp, h.1, fun M w loc vs S hr => ⟨h.1, (h.2.2 _ _ _ _ S.lt hr).mono ?_⟩⟩
  rintro e w' ⟨v, rfl, hu, hv⟩
  refine ⟨v, rfl, loc, ⟨by simp, by simp [hotOf], by simp [hotOf], fun b hb => Nat.lt_of_lt_of_le (S.lt b hb) hu.size, by simp⟩, hu, by simp [hotOf], by simp, hv⟩

def anW2644 : Ann := ⟨[5], []⟩
theorem clone_own (s : Sym) (l : List Sym) : DSpec Try.prog (.func 44) [dSyms (s :: l)] [] (.osl 0 1) [⟨0, 1, .row 75 2 16 ((s :: l).map dSym)⟩] := by
  refine DSpec_intro [] [(5, 0, 1)] (fn := Try.f44) Try.func44 rfl Try.call44 (by simp [Try.ntmps44]) (by simp) (by simp) ?_
  intro hwf B hnt
  have hw : wSyms (s :: l) := w_syms hwf.1
  obtain ⟨hw1, hw2, hw3⟩ := hw
  clear hwf
  simp at hw1 hw2
  clear hw3
  simp only [argS, List.nil_append, dSyms, List.map_cons]
  (repeat (first
      | (refine DW_seq fun K hK => ?_)
      | (refine DW_r anW2644 Try.mixed (by kernel_rfl) ?_; simp [hnt, Try.ntmps44, Try.results44, anW2644]; try simp (disch := omega) only [wrap64_in])
      | (refine DW_block ?_)
      | (focus (refine DW_if ?_ ?_ ?_; (· (simp [hnt, Try.ntmps44, Try.results44, anW2644]; done)); (try (rotate_left; (· (intro hc; (try simp [hnt, Try.ntmps44, Try.results44, anW2644] at hc); done))))))
      | (refine DW_ret ?_; simp [hnt, Try.ntmps44, Try.results44, anW2644])
      | (refine DW_exit ?_; simp [hnt, Try.ntmps44, Try.results44, anW2644])
      | (refine DW_skip ?_; simp [hnt, Try.ntmps44, Try.results44, anW2644])
      | (intro hc; (try simp [hnt, Try.ntmps44, Try.results44, anW2644] at hc); done)
      | (intro hc; (try simp [hnt, Try.ntmps44, Try.results44, anW2644] at hc); (first | (exfalso; omega) | skip))
      | (refine ⟨?_, ?_⟩; · omega)
      | omega
      | apply_assumption -exfalso -symm
      | (exfalso; omega)))

theorem clone_own' {l : List Sym} (h : l ≠ []) : DSpec Try.prog (.func 44) [dSyms l] [] (.osl 0 1) [⟨0, 1, .row 75 2 16 (l.map dSym)⟩] := by
  cases l with
  | nil => exact absurd rfl h
  | cons s l => exact clone_own s l

@[local simp] theorem mx_rev (l : List Sym) : mxR (l.map dSym).reverse = 0 := by rw [← List.map_reverse]; exact mx_dSyms _
def turnC (c : Cnf) : Cnf := ⟨c.nts, c.prods.map fun p => ⟨p.head, p.body.reverse⟩⟩

def anW2647 : Ann := ⟨[21, 24], [⟨4, [7], [], []⟩, ⟨6, [50], [], []⟩]⟩
set_option maxHeartbeats 1000000 in
/-- with, where each body is turned about -/
theorem with_rev (c : Cnf) : DPure Try.prog 47 [.agg (dCnf c), .fn (.func 57) [] []] (.agg (dCnf (turnC c))) := by
  refine DPure_introF [32] (fn := Try.f47) Try.func47 rfl Try.call47 (by simp [Try.ntmps47]) (by simp [mx]) ?_
  intro hwf B hnt
  have hw : wCnf c := w_cnf (by simpa [wfL, wfD] using hwf.1)
  obtain ⟨hw1, hw2, hw3, hw4⟩ := hw
  clear hwf
  simp only [argS]
  (repeat (first
      | (refine DW_seq fun K hK => ?_)
      | (refine DW_r anW2647 Try.mixed (by kernel_rfl) ?_; simp [hnt, Try.ntmps47, Try.results47, anW2647, dCnf]; try simp (disch := omega) only [wrap64_in])
      | (refine DW_block ?_)
      | (focus (refine DW_if ?_ ?_ ?_; (· (simp [hnt, Try.ntmps47, Try.results47, anW2647, dCnf]; done)); (try (rotate_left; (· (intro hc; (try simp [hnt, Try.ntmps47, Try.results47, anW2647, dCnf] at hc); done))))))
      | (refine DW_ret ?_; simp [hnt, Try.ntmps47, Try.results47, anW2647, dCnf])
      | (refine DW_exit ?_; simp [hnt, Try.ntmps47, Try.results47, anW2647, dCnf])
      | (refine DW_skip ?_; simp [hnt, Try.ntmps47, Try.results47, anW2647, dCnf])
      | (intro hc; (try simp [hnt, Try.ntmps47, Try.results47, anW2647, dCnf] at hc); done)
      | (intro hc; (try simp [hnt, Try.ntmps47, Try.results47, anW2647, dCnf] at hc); (first | (exfalso; omega) | skip))
      | (refine ⟨?_, ?_⟩; · omega)
      | omega
      | apply_assumption -exfalso -symm
      | (exfalso; omega)))
  refine DW_adoptC 5 1 32 33 2 32 (by simp) (fun n => ?_)
  refine DW_loop (X := {k : Nat // k ≤ c.prods.length}) (fun k => ⟨[(1, .fn (.func 57) [] []), (4, .bx 4 1 0), (5, .bx 5 1 0), (13, dProds c.prods), (14, .int .i64 c.prods.length), (15, .int .i64 k.1)], [⟨4, 1, .box [.int .i64 0, .nilsl]⟩, ⟨5, 1, .box [.int .i64 c.nts, .osl 32 1]⟩, ⟨32, 1, .row 33 2 32 (((turnC c).prods.take k.1).map dProd)⟩]⟩) (fun k => c.prods.length - k.1) ⟨0, by simp⟩ (Sub.lit (by simp)) ?_
  rintro ⟨k, hk⟩
  by_cases hlt : k < c.prods.length
  · obtain ⟨p, hp, hp', hpm⟩ := at_lt' hlt
    obtain ⟨hw5, hw6, hw7, hw8⟩ := hw4 p hpm
    have htk : ((turnC c).prods.map dProd).take (k + 1) = ((turnC c).prods.map dProd).take k ++ [dProd ⟨p.head, p.body.reverse⟩] := by rw [List.take_add_one, List.getElem?_map]; simp only [turnC]; rw [List.getElem?_map, hp]; rfl
    by_cases hb : p.body = []
    · have h1 := DPure_spec (clone_pure [])
      have h2 := DPure_spec rev_nil
      rw [hb] at htk
      (repeat (first
          | (refine DW_seq fun K hK => ?_)
          | (refine DW_r anW2647 Try.mixed (by kernel_rfl) ?_; simp [hnt, Try.ntmps47, Try.results47, anW2647, dCnf, dProd, hlt, hp', hb]; try simp (disch := omega) only [wrap64_in])
          | (refine DW_block ?_)
          | (focus (refine DW_if ?_ ?_ ?_; (· (simp [hnt, Try.ntmps47, Try.results47, anW2647, dCnf, dProd, hlt, hp', hb]; done)); (try (rotate_left; (· (intro hc; (try simp [hnt, Try.ntmps47, Try.results47, anW2647, dCnf, dProd, hlt, hp', hb] at hc); done))))))
          | (refine DW_ret ?_; simp [hnt, Try.ntmps47, Try.results47, anW2647, dCnf, dProd, hlt, hp', hb])
          | (refine DW_exit ?_; simp [hnt, Try.ntmps47, Try.results47, anW2647, dCnf, dProd, hlt, hp', hb])
          | (refine DW_skip ?_; simp [hnt, Try.ntmps47, Try.results47, anW2647, dCnf, dProd, hlt, hp', hb])
          | (intro hc; (try simp [hnt, Try.ntmps47, Try.results47, anW2647, dCnf, dProd, hlt, hp', hb] at hc); done)
          | (intro hc; (try simp [hnt, Try.ntmps47, Try.results47, anW2647, dCnf, dProd, hlt, hp', hb] at hc); (first | (exfalso; omega) | skip))
          | (refine callS_mk [] [] (h1) ?_ ?_; (· (simp [hnt, Try.ntmps47, Try.results47, anW2647, dCnf, dProd, hlt, hp', hb]; done)); (intro _; try simp [hnt, Try.ntmps47, Try.results47, anW2647, dCnf, dProd, hlt, hp', hb]))
          | (refine callS_mk [] [] (h2) ?_ ?_; (· (simp [hnt, Try.ntmps47, Try.results47, anW2647, dCnf, dProd, hlt, hp', hb]; done)); (intro _; try simp [hnt, Try.ntmps47, Try.results47, anW2647, dCnf, dProd, hlt, hp', hb]))
          | (refine ⟨?_, ?_⟩; · omega)
          | omega
          | apply_assumption -exfalso -symm
          | (exfalso; omega)))
      refine Again.mk ⟨k + 1, by omega⟩ (Sub.lit (by simp [htk, dProd])) (by simp; omega)
    · have h1 := clone_own' hb
      have h2 := rev_spec p.body
      (repeat (first
          | (refine DW_seq fun K hK => ?_)
          | (refine DW_r anW2647 Try.mixed (by kernel_rfl) ?_; simp [hnt, Try.ntmps47, Try.results47, anW2647, dCnf, dProd, hlt, hp']; try simp (disch := omega) only [wrap64_in])
          | (refine DW_block ?_)
          | (focus (refine DW_if ?_ ?_ ?_; (· (simp [hnt, Try.ntmps47, Try.results47, anW2647, dCnf, dProd, hlt, hp']; done)); (try (rotate_left; (· (intro hc; (try simp [hnt, Try.ntmps47, Try.results47, anW2647, dCnf, dProd, hlt, hp'] at hc); done))))))
          | (refine DW_ret ?_; simp [hnt, Try.ntmps47, Try.results47, anW2647, dCnf, dProd, hlt, hp'])
          | (refine DW_exit ?_; simp [hnt, Try.ntmps47, Try.results47, anW2647, dCnf, dProd, hlt, hp'])
          | (refine DW_skip ?_; simp [hnt, Try.ntmps47, Try.results47, anW2647, dCnf, dProd, hlt, hp'])
          | (intro hc; (try simp [hnt, Try.ntmps47, Try.results47, anW2647, dCnf, dProd, hlt, hp'] at hc); done)
          | (intro hc; (try simp [hnt, Try.ntmps47, Try.results47, anW2647, dCnf, dProd, hlt, hp'] at hc); (first | (exfalso; omega) | skip))
          | (refine callS_mk [] [(50,0)] (h1) ?_ ?_; (· (simp [hnt, Try.ntmps47, Try.results47, anW2647, dCnf, dProd, hlt, hp']; done)); (intro _; try simp [hnt, Try.ntmps47, Try.results47, anW2647, dCnf, dProd, hlt, hp']))
          | (refine callS_mk [(50,0)] [] (h2) ?_ ?_; (· (simp [hnt, Try.ntmps47, Try.results47, anW2647, dCnf, dProd, hlt, hp']; done)); (intro _; try simp [hnt, Try.ntmps47, Try.results47, anW2647, dCnf, dProd, hlt, hp']))
          | (refine ⟨?_, ?_⟩; · omega)
          | omega
          | apply_assumption -exfalso -symm
          | (exfalso; omega)))
      refine Again.mk ⟨k + 1, by omega⟩ (Sub.lit (by simp [htk, dProd])) (by simp; omega)
  · have hkk : k = c.prods.length := by omega
    subst hkk
    (repeat (first
        | (refine DW_seq fun K hK => ?_)
        | (refine DW_r anW2647 Try.mixed (by kernel_rfl) ?_; simp [hnt, Try.ntmps47, Try.results47, anW2647, dCnf]; try simp (disch := omega) only [wrap64_in])
        | (refine DW_block ?_)
        | (focus (refine DW_if ?_ ?_ ?_; (· (simp [hnt, Try.ntmps47, Try.results47, anW2647, dCnf]; done)); (try (rotate_left; (· (intro hc; (try simp [hnt, Try.ntmps47, Try.results47, anW2647, dCnf] at hc); done))))))
        | (refine DW_ret ?_; simp [hnt, Try.ntmps47, Try.results47, anW2647, dCnf])
        | (refine DW_exit ?_; simp [hnt, Try.ntmps47, Try.results47, anW2647, dCnf])
        | (refine DW_skip ?_; simp [hnt, Try.ntmps47, Try.results47, anW2647, dCnf])
        | (intro hc; (try simp [hnt, Try.ntmps47, Try.results47, anW2647, dCnf] at hc); done)
        | (intro hc; (try simp [hnt, Try.ntmps47, Try.results47, anW2647, dCnf] at hc); (first | (exfalso; omega) | skip))
        | (refine ⟨?_, ?_⟩; · omega)
        | omega
        | apply_assumption -exfalso -symm
        | (exfalso; omega)))
    simp only [turnC, List.map_map]
    exact ⟨trivial, List.take_of_length_le (by simp)⟩

def anW2626 : Ann := ⟨[], []⟩
theorem fsort_pure (c : Cnf) : DPure Try.prog 26 [.agg (dCnf c)] (if cnfOK c then .tup [.agg (dCnf (normC c)), .int .i64 0] else .tup [.agg [.int .i64 0, .nilsl], .int .i64 220]) := by
  refine DPure_introF [] (fn := Try.f26) Try.func26 rfl Try.call26 (by simp [Try.ntmps26]) (by cases cnfOK c <;> simp [mx, dCnf]) ?_
  intro hwf B hnt
  simp only [argS]
  have h1 := check_pure c
  have h2 := sorted_pure c
  cases hb : cnfOK c
  · rw [hb] at h1
    (repeat (first
        | (refine DW_seq fun K hK => ?_)
        | (refine DW_r anW2626 Try.mixed (by kernel_rfl) ?_; simp [hnt, Try.ntmps26, Try.results26, anW2626, dCnf]; try simp (disch := omega) only [wrap64_in])
        | (refine DW_block ?_)
        | (focus (refine DW_if ?_ ?_ ?_; (· (simp [hnt, Try.ntmps26, Try.results26, anW2626, dCnf]; done)); (try (rotate_left; (· (intro hc; (try simp [hnt, Try.ntmps26, Try.results26, anW2626, dCnf] at hc); done))))))
        | (refine DW_ret ?_; simp [hnt, Try.ntmps26, Try.results26, anW2626, dCnf])
        | (refine DW_exit ?_; simp [hnt, Try.ntmps26, Try.results26, anW2626, dCnf])
        | (refine DW_skip ?_; simp [hnt, Try.ntmps26, Try.results26, anW2626, dCnf])
        | (intro hc; (try simp [hnt, Try.ntmps26, Try.results26, anW2626, dCnf] at hc); done)
        | (intro hc; (try simp [hnt, Try.ntmps26, Try.results26, anW2626, dCnf] at hc); (first | (exfalso; omega) | skip))
        | (refine callP_mk (h1) ?_; try simp [hnt, Try.ntmps26, Try.results26, anW2626, dCnf])
        | (refine callP_wk (h1) ?_ ?_; (· (simp; done)); try simp [hnt, Try.ntmps26, Try.results26, anW2626, dCnf])
        | (refine callP_mk (h2) ?_; try simp [hnt, Try.ntmps26, Try.results26, anW2626, dCnf])
        | (refine callP_wk (h2) ?_ ?_; (· (simp; done)); try simp [hnt, Try.ntmps26, Try.results26, anW2626, dCnf])
        | (refine ⟨?_, ?_⟩; · omega)
        | omega
        | apply_assumption -exfalso -symm
        | (exfalso; omega)))
  · rw [hb] at h1
    (repeat (first
        | (refine DW_seq fun K hK => ?_)
        | (refine DW_r anW2626 Try.mixed (by kernel_rfl) ?_; simp [hnt, Try.ntmps26, Try.results26, anW2626, dCnf]; try simp (disch := omega) only [wrap64_in])
        | (refine DW_block ?_)
        | (focus (refine DW_if ?_ ?_ ?_; (· (simp [hnt, Try.ntmps26, Try.results26, anW2626, dCnf]; done)); (try (rotate_left; (· (intro hc; (try simp [hnt, Try.ntmps26, Try.results26, anW2626, dCnf] at hc); done))))))
        | (refine DW_ret ?_; simp [hnt, Try.ntmps26, Try.results26, anW2626, dCnf])
        | (refine DW_exit ?_; simp [hnt, Try.ntmps26, Try.results26, anW2626, dCnf])
        | (refine DW_skip ?_; simp [hnt, Try.ntmps26, Try.results26, anW2626, dCnf])
        | (intro hc; (try simp [hnt, Try.ntmps26, Try.results26, anW2626, dCnf] at hc); done)
        | (intro hc; (try simp [hnt, Try.ntmps26, Try.results26, anW2626, dCnf] at hc); (first | (exfalso; omega) | skip))
        | (refine callP_mk (h1) ?_; try simp [hnt, Try.ntmps26, Try.results26, anW2626, dCnf])
        | (refine callP_wk (h1) ?_ ?_; (· (simp; done)); try simp [hnt, Try.ntmps26, Try.results26, anW2626, dCnf])
        | (refine callP_mk (h2) ?_; try simp [hnt, Try.ntmps26, Try.results26, anW2626, dCnf])
        | (refine callP_wk (h2) ?_ ?_; (· (simp; done)); try simp [hnt, Try.ntmps26, Try.results26, anW2626, dCnf])
        | (refine ⟨?_, ?_⟩; · omega)
        | omega
        | apply_assumption -exfalso -symm
        | (exfalso; omega)))

def anW2627 : Ann := ⟨[], []⟩
theorem fturn_pure (c : Cnf) : DPure Try.prog 27 [.agg (dCnf c)] (if cnfOK c then .tup [.agg (dCnf (turnC c)), .int .i64 0] else .tup [.agg [.int .i64 0, .nilsl], .int .i64 220]) := by
  refine DPure_introF [] (fn := Try.f27) Try.func27 rfl Try.call27 (by simp [Try.ntmps27]) (by cases cnfOK c <;> simp [mx, dCnf]) ?_
  intro hwf B hnt
  simp only [argS]
  have h1 := check_pure c
  have h2 := with_rev c
  cases hb : cnfOK c
  · rw [hb] at h1
    (repeat (first
        | (refine DW_seq fun K hK => ?_)
        | (refine DW_r anW2627 Try.mixed (by kernel_rfl) ?_; simp [hnt, Try.ntmps27, Try.results27, anW2627, dCnf]; try simp (disch := omega) only [wrap64_in])
        | (refine DW_block ?_)
        | (focus (refine DW_if ?_ ?_ ?_; (· (simp [hnt, Try.ntmps27, Try.results27, anW2627, dCnf]; done)); (try (rotate_left; (· (intro hc; (try simp [hnt, Try.ntmps27, Try.results27, anW2627, dCnf] at hc); done))))))
        | (refine DW_ret ?_; simp [hnt, Try.ntmps27, Try.results27, anW2627, dCnf])
        | (refine DW_exit ?_; simp [hnt, Try.ntmps27, Try.results27, anW2627, dCnf])
        | (refine DW_skip ?_; simp [hnt, Try.ntmps27, Try.results27, anW2627, dCnf])
        | (intro hc; (try simp [hnt, Try.ntmps27, Try.results27, anW2627, dCnf] at hc); done)
        | (intro hc; (try simp [hnt, Try.ntmps27, Try.results27, anW2627, dCnf] at hc); (first | (exfalso; omega) | skip))
        | (refine callP_mk (h1) ?_; try simp [hnt, Try.ntmps27, Try.results27, anW2627, dCnf])
        | (refine callP_wk (h1) ?_ ?_; (· (simp; done)); try simp [hnt, Try.ntmps27, Try.results27, anW2627, dCnf])
        | (refine callP_mk (h2) ?_; try simp [hnt, Try.ntmps27, Try.results27, anW2627, dCnf])
        | (refine callP_wk (h2) ?_ ?_; (· (simp; done)); try simp [hnt, Try.ntmps27, Try.results27, anW2627, dCnf])
        | (refine ⟨?_, ?_⟩; · omega)
        | omega
        | apply_assumption -exfalso -symm
        | (exfalso; omega)))
  · rw [hb] at h1
    (repeat (first
        | (refine DW_seq fun K hK => ?_)
        | (refine DW_r anW2627 Try.mixed (by kernel_rfl) ?_; simp [hnt, Try.ntmps27, Try.results27, anW2627, dCnf]; try simp (disch := omega) only [wrap64_in])
        | (refine DW_block ?_)
        | (focus (refine DW_if ?_ ?_ ?_; (· (simp [hnt, Try.ntmps27, Try.results27, anW2627, dCnf]; done)); (try (rotate_left; (· (intro hc; (try simp [hnt, Try.ntmps27, Try.results27, anW2627, dCnf] at hc); done))))))
        | (refine DW_ret ?_; simp [hnt, Try.ntmps27, Try.results27, anW2627, dCnf])
        | (refine DW_exit ?_; simp [hnt, Try.ntmps27, Try.results27, anW2627, dCnf])
        | (refine DW_skip ?_; simp [hnt, Try.ntmps27, Try.results27, anW2627, dCnf])
        | (intro hc; (try simp [hnt, Try.ntmps27, Try.results27, anW2627, dCnf] at hc); done)
        | (intro hc; (try simp [hnt, Try.ntmps27, Try.results27, anW2627, dCnf] at hc); (first | (exfalso; omega) | skip))
        | (refine callP_mk (h1) ?_; try simp [hnt, Try.ntmps27, Try.results27, anW2627, dCnf])
        | (refine callP_wk (h1) ?_ ?_; (· (simp; done)); try simp [hnt, Try.ntmps27, Try.results27, anW2627, dCnf])
        | (refine callP_mk (h2) ?_; try simp [hnt, Try.ntmps27, Try.results27, anW2627, dCnf])
        | (refine callP_wk (h2) ?_ ?_; (· (simp; done)); try simp [hnt, Try.ntmps27, Try.results27, anW2627, dCnf])
        | (refine ⟨?_, ?_⟩; · omega)
        | omega
        | apply_assumption -exfalso -symm
        | (exfalso; omega)))
end Go.Proofs.Ytihkcegelghcpaa
end

section
/- A part of a proof: walks over the functions that it names; their contracts hold for every argument. -/

set_option linter.unusedSimpArgs false
set_option linter.unusedVariables false
namespace Go.Proofs.Ytihkcegelghcpaa
open Go Go.Dm
attribute [local irreducible] DW callP callS
set_option maxRecDepth 100000

def anW19115 : Ann := ⟨[], []⟩
theorem there_nil : DPure Try.prog 115 [.nilp] (.bool false) := by
  refine DPure_introF [] (fn := Try.f115) Try.func115 rfl Try.call115 (by simp [Try.ntmps115]) (by simp [mx]) ?_
  intro hwf B hnt
  simp only [argS]
  (repeat (first
      | (refine DW_seq fun K hK => ?_)
      | (refine DW_r anW19115 Try.mixed (by kernel_rfl) ?_; simp [hnt, Try.ntmps115, Try.results115, anW19115]; try simp (disch := omega) only [wrap64_in])
      | (refine DW_block ?_)
      | (focus (refine DW_if ?_ ?_ ?_; (· (simp [hnt, Try.ntmps115, Try.results115, anW19115]; done)); (try (rotate_left; (· (intro hc; (try simp [hnt, Try.ntmps115, Try.results115, anW19115] at hc); done))))))
      | (refine DW_ret ?_; simp [hnt, Try.ntmps115, Try.results115, anW19115])
      | (refine DW_exit ?_; simp [hnt, Try.ntmps115, Try.results115, anW19115])
      | (refine DW_skip ?_; simp [hnt, Try.ntmps115, Try.results115, anW19115])
      | (intro hc; (try simp [hnt, Try.ntmps115, Try.results115, anW19115] at hc); done)
      | (intro hc; (try simp [hnt, Try.ntmps115, Try.results115, anW19115] at hc); (first | (exfalso; omega) | skip))
      | (refine ⟨?_, ?_⟩; · omega)
      | omega
      | apply_assumption -exfalso -symm
      | (exfalso; omega)))
def anW1982 : Ann := ⟨[], []⟩
theorem states_nil : DPure Try.prog 82 [.nilp] (.int .i64 0) := by
  refine DPure_introF [] (fn := Try.f82) Try.func82 rfl Try.call82 (by simp [Try.ntmps82]) (by simp [mx]) ?_
  intro hwf B hnt
  simp only [argS]
  (repeat (first
      | (refine DW_seq fun K hK => ?_)
      | (refine DW_r anW1982 Try.mixed (by kernel_rfl) ?_; simp [hnt, Try.ntmps82, Try.results82, anW1982]; try simp (disch := omega) only [wrap64_in])
      | (refine DW_block ?_)
      | (focus (refine DW_if ?_ ?_ ?_; (· (simp [hnt, Try.ntmps82, Try.results82, anW1982]; done)); (try (rotate_left; (· (intro hc; (try simp [hnt, Try.ntmps82, Try.results82, anW1982] at hc); done))))))
      | (refine DW_ret ?_; simp [hnt, Try.ntmps82, Try.results82, anW1982])
      | (refine DW_exit ?_; simp [hnt, Try.ntmps82, Try.results82, anW1982])
      | (refine DW_skip ?_; simp [hnt, Try.ntmps82, Try.results82, anW1982])
      | (intro hc; (try simp [hnt, Try.ntmps82, Try.results82, anW1982] at hc); done)
      | (intro hc; (try simp [hnt, Try.ntmps82, Try.results82, anW1982] at hc); (first | (exfalso; omega) | skip))
      | (refine callP_mk (there_nil) ?_; try simp [hnt, Try.ntmps82, Try.results82, anW1982])
      | (refine callP_wk (there_nil) ?_ ?_; (· (simp; done)); try simp [hnt, Try.ntmps82, Try.results82, anW1982])
      | (refine ⟨?_, ?_⟩; · omega)
      | omega
      | apply_assumption -exfalso -symm
      | (exfalso; omega)))
def anW1946 : Ann := ⟨[], [⟨22, [12], [], []⟩]⟩
theorem cfgOf_nil : DPure Try.prog 46 [.nilp] (.tup [.agg [.int .i64 0, .nilsl], .int .i64 1]) := by
  refine DPure_introF [] (fn := Try.f46) Try.func46 rfl Try.call46 (by simp [Try.ntmps46]) (by simp [mx]) ?_
  intro hwf B hnt
  simp only [argS]
  (repeat (first
      | (refine DW_seq fun K hK => ?_)
      | (refine DW_r anW1946 Try.mixed (by kernel_rfl) ?_; simp [hnt, Try.ntmps46, Try.results46, anW1946]; try simp (disch := omega) only [wrap64_in])
      | (refine DW_block ?_)
      | (focus (refine DW_if ?_ ?_ ?_; (· (simp [hnt, Try.ntmps46, Try.results46, anW1946]; done)); (try (rotate_left; (· (intro hc; (try simp [hnt, Try.ntmps46, Try.results46, anW1946] at hc); done))))))
      | (refine DW_ret ?_; simp [hnt, Try.ntmps46, Try.results46, anW1946])
      | (refine DW_exit ?_; simp [hnt, Try.ntmps46, Try.results46, anW1946])
      | (refine DW_skip ?_; simp [hnt, Try.ntmps46, Try.results46, anW1946])
      | (intro hc; (try simp [hnt, Try.ntmps46, Try.results46, anW1946] at hc); done)
      | (intro hc; (try simp [hnt, Try.ntmps46, Try.results46, anW1946] at hc); (first | (exfalso; omega) | skip))
      | (refine callP_mk (states_nil) ?_; try simp [hnt, Try.ntmps46, Try.results46, anW1946])
      | (refine callP_wk (states_nil) ?_ ?_; (· (simp; done)); try simp [hnt, Try.ntmps46, Try.results46, anW1946])
      | (refine ⟨?_, ?_⟩; · omega)
      | omega
      | apply_assumption -exfalso -symm
      | (exfalso; omega)))
def anW1919 : Ann := ⟨[], [⟨1, [1], [], []⟩]⟩
theorem head12_pure : DPure Try.prog 19 [] (.bool true) := by
  refine DPure_introF [] (fn := Try.f19) Try.func19 rfl Try.call19 (by simp [Try.ntmps19]) (by simp [mx]) ?_
  intro hwf B hnt
  simp only [argS]
  have h1 := check_pure ⟨0, []⟩
  have h2 := check_pure ⟨1, []⟩
  simp [dCnf, cnfOK, dProds] at h1 h2
  (repeat (first
      | (refine DW_seq fun K hK => ?_)
      | (refine DW_r anW1919 Try.mixed (by kernel_rfl) ?_; simp [hnt, Try.ntmps19, Try.results19, anW1919]; try simp (disch := omega) only [wrap64_in])
      | (refine DW_block ?_)
      | (focus (refine DW_if ?_ ?_ ?_; (· (simp [hnt, Try.ntmps19, Try.results19, anW1919]; done)); (try (rotate_left; (· (intro hc; (try simp [hnt, Try.ntmps19, Try.results19, anW1919] at hc); done))))))
      | (refine DW_ret ?_; simp [hnt, Try.ntmps19, Try.results19, anW1919])
      | (refine DW_exit ?_; simp [hnt, Try.ntmps19, Try.results19, anW1919])
      | (refine DW_skip ?_; simp [hnt, Try.ntmps19, Try.results19, anW1919])
      | (intro hc; (try simp [hnt, Try.ntmps19, Try.results19, anW1919] at hc); done)
      | (intro hc; (try simp [hnt, Try.ntmps19, Try.results19, anW1919] at hc); (first | (exfalso; omega) | skip))
      | (refine callP_mk (cfgOf_nil) ?_; try simp [hnt, Try.ntmps19, Try.results19, anW1919])
      | (refine callP_wk (cfgOf_nil) ?_ ?_; (· (simp; done)); try simp [hnt, Try.ntmps19, Try.results19, anW1919])
      | (refine callP_mk (h1) ?_; try simp [hnt, Try.ntmps19, Try.results19, anW1919])
      | (refine callP_wk (h1) ?_ ?_; (· (simp; done)); try simp [hnt, Try.ntmps19, Try.results19, anW1919])
      | (refine callP_mk (h2) ?_; try simp [hnt, Try.ntmps19, Try.results19, anW1919])
      | (refine callP_wk (h2) ?_ ?_; (· (simp; done)); try simp [hnt, Try.ntmps19, Try.results19, anW1919])
      | (refine ⟨?_, ?_⟩; · omega)
      | omega
      | apply_assumption -exfalso -symm
      | (exfalso; omega)))
end Go.Proofs.Ytihkcegelghcpaa
end

section
/- A part of a proof: walks over the functions that it names; their contracts hold for every argument. -/

set_option linter.unusedSimpArgs false
set_option linter.unusedVariables false
namespace Go.Proofs.Ytihkcegelghcpaa
open Go Go.Dm
attribute [local irreducible] DW callP callS
def anW1414 : Ann := ⟨[], [⟨6, [23], [], []⟩]⟩
set_option maxRecDepth 100000 in
theorem copy_pure (c : Cnf) : DPure Try.prog 14 [.agg (dCnf c)] (.agg (dCnf c)) := by
  refine DPure_introF [35] (fn := Try.f14) Try.func14 rfl Try.call14 (by simp [Try.ntmps14]) (by simp [mx]) ?_
  intro hwf B hnt
  have hw : wCnf c := w_cnf (by simpa [wfL, wfD] using hwf.1)
  obtain ⟨hw1, hw2, hw3, hw4⟩ := hw
  clear hwf
  simp only [argS]
  (repeat (first
      | (refine DW_seq fun K hK => ?_)
      | (refine DW_r anW1414 Try.mixed (by kernel_rfl) ?_; simp [hnt, Try.ntmps14, Try.results14, anW1414, dCnf]; try simp (disch := omega) only [wrap64_in])
      | (refine DW_block ?_)
      | (focus (refine DW_if ?_ ?_ ?_; (· (simp [hnt, Try.ntmps14, Try.results14, anW1414, dCnf]; done)); (try (rotate_left; (· (intro hc; (try simp [hnt, Try.ntmps14, Try.results14, anW1414, dCnf] at hc); done))))))
      | (refine DW_ret ?_; simp [hnt, Try.ntmps14, Try.results14, anW1414, dCnf])
      | (refine DW_exit ?_; simp [hnt, Try.ntmps14, Try.results14, anW1414, dCnf])
      | (refine DW_skip ?_; simp [hnt, Try.ntmps14, Try.results14, anW1414, dCnf])
      | (intro hc; (try simp [hnt, Try.ntmps14, Try.results14, anW1414, dCnf] at hc); done)
      | (intro hc; (try simp [hnt, Try.ntmps14, Try.results14, anW1414, dCnf] at hc); (first | (exfalso; omega) | skip))
      | (refine ⟨?_, ?_⟩; · omega)
      | omega
      | apply_assumption -exfalso -symm
      | (exfalso; omega)))
  refine DW_adoptC 3 1 35 33 2 32 (by simp) (fun n => ?_)
  refine DW_loop (X := {k : Nat // k ≤ c.prods.length}) (fun k => ⟨[(1, .ref [.int .i64 c.nts, dProds c.prods]), (2, .bx 2 1 0), (3, .bx 3 1 0), (4, .int .i64 k.1)], [⟨3, 1, .box [.int .i64 c.nts, .osl 35 1]⟩, ⟨35, 1, .row 33 2 32 ((c.prods.take k.1).map dProd)⟩, ⟨2, 1, .box [.int .i64 0, .nilsl]⟩]⟩) (fun k => c.prods.length - k.1) ⟨0, by simp⟩ (Sub.lit (by simp)) ?_
  rintro ⟨k, hk⟩
  by_cases hlt : k < c.prods.length
  · obtain ⟨p, hp, hp', hpm⟩ := at_lt' hlt
    obtain ⟨hw5, hw6, hw7, hw8⟩ := hw4 p hpm
    have htk : (c.prods.map dProd).take (k + 1) = (c.prods.map dProd).take k ++ [dProd p] := by rw [List.take_add_one, List.getElem?_map, hp]; rfl
    (repeat (first
        | (refine DW_seq fun K hK => ?_)
        | (refine DW_r anW1414 Try.mixed (by kernel_rfl) ?_; simp [hnt, Try.ntmps14, Try.results14, anW1414, dCnf, dProd, hlt, hp']; try simp (disch := omega) only [wrap64_in])
        | (refine DW_block ?_)
        | (focus (refine DW_if ?_ ?_ ?_; (· (simp [hnt, Try.ntmps14, Try.results14, anW1414, dCnf, dProd, hlt, hp']; done)); (try (rotate_left; (· (intro hc; (try simp [hnt, Try.ntmps14, Try.results14, anW1414, dCnf, dProd, hlt, hp'] at hc); done))))))
        | (refine DW_ret ?_; simp [hnt, Try.ntmps14, Try.results14, anW1414, dCnf, dProd, hlt, hp'])
        | (refine DW_exit ?_; simp [hnt, Try.ntmps14, Try.results14, anW1414, dCnf, dProd, hlt, hp'])
        | (refine DW_skip ?_; simp [hnt, Try.ntmps14, Try.results14, anW1414, dCnf, dProd, hlt, hp'])
        | (intro hc; (try simp [hnt, Try.ntmps14, Try.results14, anW1414, dCnf, dProd, hlt, hp'] at hc); done)
        | (intro hc; (try simp [hnt, Try.ntmps14, Try.results14, anW1414, dCnf, dProd, hlt, hp'] at hc); (first | (exfalso; omega) | skip))
        | (refine ⟨?_, ?_⟩; · omega)
        | omega
        | apply_assumption -exfalso -symm
        | (exfalso; omega)))
    refine Again.mk ⟨k + 1, by omega⟩ (Sub.lit ?_) (by simp; omega)
    · simp [htk, dProd]
    (repeat (first
        | (refine DW_seq fun K hK => ?_)
        | (refine DW_r anW1414 Try.mixed (by kernel_rfl) ?_; simp [hnt, Try.ntmps14, Try.results14, anW1414]; try simp (disch := omega) only [wrap64_in])
        | (refine DW_block ?_)
        | (focus (refine DW_if ?_ ?_ ?_; (· (simp [hnt, Try.ntmps14, Try.results14, anW1414]; done)); (try (rotate_left; (· (intro hc; (try simp [hnt, Try.ntmps14, Try.results14, anW1414] at hc); done))))))
        | (refine DW_ret ?_; simp [hnt, Try.ntmps14, Try.results14, anW1414])
        | (refine DW_exit ?_; simp [hnt, Try.ntmps14, Try.results14, anW1414])
        | (refine DW_skip ?_; simp [hnt, Try.ntmps14, Try.results14, anW1414])
        | (intro hc; (try simp [hnt, Try.ntmps14, Try.results14, anW1414] at hc); done)
        | (intro hc; (try simp [hnt, Try.ntmps14, Try.results14, anW1414] at hc); (first | (exfalso; omega) | skip))
        | (refine ⟨?_, ?_⟩; · omega)
        | omega
        | apply_assumption -exfalso -symm
        | (exfalso; omega)))
  · have hkk : k = c.prods.length := by omega
    subst hkk
    (repeat (first
        | (refine DW_seq fun K hK => ?_)
        | (refine DW_r anW1414 Try.mixed (by kernel_rfl) ?_; simp [hnt, Try.ntmps14, Try.results14, anW1414, dCnf]; try simp (disch := omega) only [wrap64_in])
        | (refine DW_block ?_)
        | (focus (refine DW_if ?_ ?_ ?_; (· (simp [hnt, Try.ntmps14, Try.results14, anW1414, dCnf]; done)); (try (rotate_left; (· (intro hc; (try simp [hnt, Try.ntmps14, Try.results14, anW1414, dCnf] at hc); done))))))
        | (refine DW_ret ?_; simp [hnt, Try.ntmps14, Try.results14, anW1414, dCnf])
        | (refine DW_exit ?_; simp [hnt, Try.ntmps14, Try.results14, anW1414, dCnf])
        | (refine DW_skip ?_; simp [hnt, Try.ntmps14, Try.results14, anW1414, dCnf])
        | (intro hc; (try simp [hnt, Try.ntmps14, Try.results14, anW1414, dCnf] at hc); done)
        | (intro hc; (try simp [hnt, Try.ntmps14, Try.results14, anW1414, dCnf] at hc); (first | (exfalso; omega) | skip))
        | (refine ⟨?_, ?_⟩; · omega)
        | omega
        | apply_assumption -exfalso -symm
        | (exfalso; omega)))
end Go.Proofs.Ytihkcegelghcpaa
end

section
/- A part of a proof: walks over the functions that it names; their contracts hold for every argument. -/

set_option linter.unusedSimpArgs false
set_option linter.unusedVariables false
namespace Go.Proofs.Ytihkcegelghcpaa
open Go Go.Dm
attribute [local irreducible] DW callP callS

def formOf : List Sym → Int
  | [] => 1
  | [s] => if s.label then 2 else 0
  | [s, t] => if !s.label && !t.label then 3 else 0
  | _ => 0


def anW4343 : Ann := ⟨[], []⟩
set_option maxRecDepth 100000 in
theorem of_pure (l : List Sym) : DPure Try.prog 43 [dSyms l] (.int .i64 (formOf l)) := by
  refine DPure_introF [] (fn := Try.f43) Try.func43 rfl Try.call43 (by simp [Try.ntmps43]) (by simp [mx]) ?_
  intro hwf B hnt
  simp only [argS]
  match l with
  | [] => (repeat (first
      | (refine DW_seq fun K hK => ?_)
      | (refine DW_r anW4343 Try.mixed (by kernel_rfl) ?_; simp [hnt, Try.ntmps43, Try.results43, anW4343, dSym, formOf]; try simp (disch := omega) only [wrap64_in])
      | (refine DW_block ?_)
      | (focus (refine DW_if ?_ ?_ ?_; (· (simp [hnt, Try.ntmps43, Try.results43, anW4343, dSym, formOf]; done)); (try (rotate_left; (· (intro hc; (try simp [hnt, Try.ntmps43, Try.results43, anW4343, dSym, formOf] at hc); done))))))
      | (refine DW_ret ?_; simp [hnt, Try.ntmps43, Try.results43, anW4343, dSym, formOf])
      | (refine DW_exit ?_; simp [hnt, Try.ntmps43, Try.results43, anW4343, dSym, formOf])
      | (refine DW_skip ?_; simp [hnt, Try.ntmps43, Try.results43, anW4343, dSym, formOf])
      | (intro hc; (try simp [hnt, Try.ntmps43, Try.results43, anW4343, dSym, formOf] at hc); done)
      | (intro hc; (try simp [hnt, Try.ntmps43, Try.results43, anW4343, dSym, formOf] at hc); (first | (exfalso; omega) | skip))
      | (refine ⟨?_, ?_⟩; · omega)
      | omega
      | apply_assumption -exfalso -symm
      | (exfalso; omega)))
  | [s] =>
    cases hl : s.label <;> (repeat (first
        | (refine DW_seq fun K hK => ?_)
        | (refine DW_r anW4343 Try.mixed (by kernel_rfl) ?_; simp [hnt, Try.ntmps43, Try.results43, anW4343, dSym, formOf, hl]; try simp (disch := omega) only [wrap64_in])
        | (refine DW_block ?_)
        | (focus (refine DW_if ?_ ?_ ?_; (· (simp [hnt, Try.ntmps43, Try.results43, anW4343, dSym, formOf, hl]; done)); (try (rotate_left; (· (intro hc; (try simp [hnt, Try.ntmps43, Try.results43, anW4343, dSym, formOf, hl] at hc); done))))))
        | (refine DW_ret ?_; simp [hnt, Try.ntmps43, Try.results43, anW4343, dSym, formOf, hl])
        | (refine DW_exit ?_; simp [hnt, Try.ntmps43, Try.results43, anW4343, dSym, formOf, hl])
        | (refine DW_skip ?_; simp [hnt, Try.ntmps43, Try.results43, anW4343, dSym, formOf, hl])
        | (intro hc; (try simp [hnt, Try.ntmps43, Try.results43, anW4343, dSym, formOf, hl] at hc); done)
        | (intro hc; (try simp [hnt, Try.ntmps43, Try.results43, anW4343, dSym, formOf, hl] at hc); (first | (exfalso; omega) | skip))
        | (refine ⟨?_, ?_⟩; · omega)
        | omega
        | apply_assumption -exfalso -symm
        | (exfalso; omega)))
  | [s, t] =>
    (repeat (first
        | (refine DW_seq fun K hK => ?_)
        | (refine DW_r anW4343 Try.mixed (by kernel_rfl) ?_; simp [hnt, Try.ntmps43, Try.results43, anW4343, dSym, formOf]; try simp (disch := omega) only [wrap64_in])
        | (refine DW_block ?_)
        | (focus (refine DW_if ?_ ?_ ?_; (· (simp [hnt, Try.ntmps43, Try.results43, anW4343, dSym, formOf]; done)); (try (rotate_left; (· (intro hc; (try simp [hnt, Try.ntmps43, Try.results43, anW4343, dSym, formOf] at hc); done))))))
        | (refine DW_ret ?_; simp [hnt, Try.ntmps43, Try.results43, anW4343, dSym, formOf])
        | (refine DW_exit ?_; simp [hnt, Try.ntmps43, Try.results43, anW4343, dSym, formOf])
        | (refine DW_skip ?_; simp [hnt, Try.ntmps43, Try.results43, anW4343, dSym, formOf])
        | (intro hc; (try simp [hnt, Try.ntmps43, Try.results43, anW4343, dSym, formOf] at hc); done)
        | (intro hc; (try simp [hnt, Try.ntmps43, Try.results43, anW4343, dSym, formOf] at hc); (first | (exfalso; omega) | skip))
        | (refine ⟨?_, ?_⟩; · omega)
        | omega
        | apply_assumption -exfalso -symm
        | (exfalso; omega)))
  | s :: t :: u :: r =>
    (repeat (first
        | (refine DW_seq fun K hK => ?_)
        | (refine DW_r anW4343 Try.mixed (by kernel_rfl) ?_; simp [hnt, Try.ntmps43, Try.results43, anW4343, dSym, formOf]; try simp (disch := omega) only [wrap64_in])
        | (refine DW_block ?_)
        | (focus (refine DW_if ?_ ?_ ?_; (· (simp [hnt, Try.ntmps43, Try.results43, anW4343, dSym, formOf]; done)); (try (rotate_left; (· (intro hc; (try simp [hnt, Try.ntmps43, Try.results43, anW4343, dSym, formOf] at hc); done))))))
        | (refine DW_ret ?_; simp [hnt, Try.ntmps43, Try.results43, anW4343, dSym, formOf])
        | (refine DW_exit ?_; simp [hnt, Try.ntmps43, Try.results43, anW4343, dSym, formOf])
        | (refine DW_skip ?_; simp [hnt, Try.ntmps43, Try.results43, anW4343, dSym, formOf])
        | (intro hc; (try simp [hnt, Try.ntmps43, Try.results43, anW4343, dSym, formOf] at hc); done)
        | (intro hc; (try simp [hnt, Try.ntmps43, Try.results43, anW4343, dSym, formOf] at hc); (first | (exfalso; omega) | skip))
        | (refine ⟨?_, ?_⟩; · omega)
        | omega
        | apply_assumption -exfalso -symm
        | (exfalso; omega)))
end Go.Proofs.Ytihkcegelghcpaa
end

section
/- A part of a proof: walks over the functions that it names; their contracts hold for every argument. -/

set_option linter.unusedSimpArgs false
set_option linter.unusedVariables false
namespace Go.Proofs.Ytihkcegelghcpaa
open Go Go.Dm
attribute [local irreducible] DW callP callS
set_option maxRecDepth 100000

def anW8181 : Ann := ⟨[], []⟩
/-- IndexFunc at Prod: the first one that the closure says yes to -/
theorem indexFunc81_pure (g : FuncId) (us cs : List DVal) (l : List Prod) (q : Prod → Bool) (hq : ∀ x ∈ l, DPure Try.prog g (us ++ [.agg (dProd x)] ++ cs) (.bool (q x))) :
    DPure Try.prog 81 [dProds l, .fn (.func g) us cs] (.int .i64 (if l.any q then ((l.findIdx q : Nat) : Int) else -1)) := by
  refine DPure_introF [] (fn := Try.f81) Try.func81 rfl Try.call81 (by simp [Try.ntmps81]) (by simp [mx]) ?_
  intro hwf B hnt
  have hw : wProds l := w_prods hwf.1
  obtain ⟨hw1, hw2, hw3⟩ := hw
  clear hwf hw3
  simp only [argS]
  (repeat (first
      | (refine DW_seq fun K hK => ?_)
      | (refine DW_r anW8181 Try.mixed (by kernel_rfl) ?_; simp [hnt, Try.ntmps81, Try.results81, anW8181]; try simp (disch := omega) only [wrap64_in])
      | (refine DW_block ?_)
      | (focus (refine DW_if ?_ ?_ ?_; (· (simp [hnt, Try.ntmps81, Try.results81, anW8181]; done)); (try (rotate_left; (· (intro hc; (try simp [hnt, Try.ntmps81, Try.results81, anW8181] at hc); done))))))
      | (refine DW_ret ?_; simp [hnt, Try.ntmps81, Try.results81, anW8181])
      | (refine DW_exit ?_; simp [hnt, Try.ntmps81, Try.results81, anW8181])
      | (refine DW_skip ?_; simp [hnt, Try.ntmps81, Try.results81, anW8181])
      | (intro hc; (try simp [hnt, Try.ntmps81, Try.results81, anW8181] at hc); done)
      | (intro hc; (try simp [hnt, Try.ntmps81, Try.results81, anW8181] at hc); (first | (exfalso; omega) | skip))
      | (refine ⟨?_, ?_⟩; · omega)
      | omega
      | apply_assumption -exfalso -symm
      | (exfalso; omega)))
  refine DW_loop (X := {k : Nat // k ≤ l.length ∧ ∀ i x, i < k → l[i]? = some x → q x = false}) (fun x => ⟨[(0, dProds l), (1, .fn (.func g) us cs), (7, .int .i64 l.length), (8, .int .i64 x.1)], []⟩) (fun x => l.length - x.1) ⟨0, by simp⟩ (Sub.lit (by simp)) ?_
  rintro ⟨k, hk, hno⟩
  by_cases hlt : k < l.length
  · obtain ⟨x, hx, hx', hxm⟩ := at_lt' hlt
    have hqx := hq x hxm
    simp only [dProd, List.append_assoc, List.cons_append, List.nil_append] at hqx
    cases hb : q x
    · rw [hb] at hqx
      have hno' : ∀ i y, i < k + 1 → l[i]? = some y → q y = false := by
        intro i y hi hy
        by_cases hik : i = k
        · subst hik; rw [hx] at hy; simp only [Option.some.injEq] at hy; subst hy; exact hb
        · exact hno i y (by omega) hy
      (repeat (first
          | (refine DW_seq fun K hK => ?_)
          | (refine DW_r anW8181 Try.mixed (by kernel_rfl) ?_; simp [hnt, Try.ntmps81, Try.results81, anW8181, dProd, hlt, hx']; try simp (disch := omega) only [wrap64_in])
          | (refine DW_block ?_)
          | (focus (refine DW_if ?_ ?_ ?_; (· (simp [hnt, Try.ntmps81, Try.results81, anW8181, dProd, hlt, hx']; done)); (try (rotate_left; (· (intro hc; (try simp [hnt, Try.ntmps81, Try.results81, anW8181, dProd, hlt, hx'] at hc); done))))))
          | (refine DW_ret ?_; simp [hnt, Try.ntmps81, Try.results81, anW8181, dProd, hlt, hx'])
          | (refine DW_exit ?_; simp [hnt, Try.ntmps81, Try.results81, anW8181, dProd, hlt, hx'])
          | (refine DW_skip ?_; simp [hnt, Try.ntmps81, Try.results81, anW8181, dProd, hlt, hx'])
          | (intro hc; (try simp [hnt, Try.ntmps81, Try.results81, anW8181, dProd, hlt, hx'] at hc); done)
          | (intro hc; (try simp [hnt, Try.ntmps81, Try.results81, anW8181, dProd, hlt, hx'] at hc); (first | (exfalso; omega) | skip))
          | (refine callP_mk (hqx) ?_; try simp [hnt, Try.ntmps81, Try.results81, anW8181, dProd, hlt, hx'])
          | (refine callP_wk (hqx) ?_ ?_; (· (simp; done)); try simp [hnt, Try.ntmps81, Try.results81, anW8181, dProd, hlt, hx'])
          | (refine ⟨?_, ?_⟩; · omega)
          | omega
          | apply_assumption -exfalso -symm
          | (exfalso; omega)))
      exact Again.mk ⟨k + 1, by omega, hno'⟩ (Sub.lit (by simp [])) (by simp; omega)
      (repeat (first
          | (refine DW_seq fun K hK => ?_)
          | (refine DW_r anW8181 Try.mixed (by kernel_rfl) ?_; simp [hnt, Try.ntmps81, Try.results81, anW8181, dProd, hlt, hx']; try simp (disch := omega) only [wrap64_in])
          | (refine DW_block ?_)
          | (focus (refine DW_if ?_ ?_ ?_; (· (simp [hnt, Try.ntmps81, Try.results81, anW8181, dProd, hlt, hx']; done)); (try (rotate_left; (· (intro hc; (try simp [hnt, Try.ntmps81, Try.results81, anW8181, dProd, hlt, hx'] at hc); done))))))
          | (refine DW_ret ?_; simp [hnt, Try.ntmps81, Try.results81, anW8181, dProd, hlt, hx'])
          | (refine DW_exit ?_; simp [hnt, Try.ntmps81, Try.results81, anW8181, dProd, hlt, hx'])
          | (refine DW_skip ?_; simp [hnt, Try.ntmps81, Try.results81, anW8181, dProd, hlt, hx'])
          | (intro hc; (try simp [hnt, Try.ntmps81, Try.results81, anW8181, dProd, hlt, hx'] at hc); done)
          | (intro hc; (try simp [hnt, Try.ntmps81, Try.results81, anW8181, dProd, hlt, hx'] at hc); (first | (exfalso; omega) | skip))
          | (refine callP_mk (hqx) ?_; try simp [hnt, Try.ntmps81, Try.results81, anW8181, dProd, hlt, hx'])
          | (refine callP_wk (hqx) ?_ ?_; (· (simp; done)); try simp [hnt, Try.ntmps81, Try.results81, anW8181, dProd, hlt, hx'])
          | (refine ⟨?_, ?_⟩; · omega)
          | omega
          | apply_assumption -exfalso -symm
          | (exfalso; omega)))
    · rw [hb] at hqx
      have hany : l.any q = true := List.any_eq_true.2 ⟨x, hxm, hb⟩
      have hidx : l.findIdx q = k := by
        rw [List.findIdx_eq hlt]
        refine ⟨by rw [hx']; exact hb, fun i hi => ?_⟩
        exact hno i _ hi (List.getElem?_eq_getElem (by omega))
      (repeat (first
          | (refine DW_seq fun K hK => ?_)
          | (refine DW_r anW8181 Try.mixed (by kernel_rfl) ?_; simp [hnt, Try.ntmps81, Try.results81, anW8181, dProd, hlt, hx', hany, hidx]; try simp (disch := omega) only [wrap64_in])
          | (refine DW_block ?_)
          | (focus (refine DW_if ?_ ?_ ?_; (· (simp [hnt, Try.ntmps81, Try.results81, anW8181, dProd, hlt, hx', hany, hidx]; done)); (try (rotate_left; (· (intro hc; (try simp [hnt, Try.ntmps81, Try.results81, anW8181, dProd, hlt, hx', hany, hidx] at hc); done))))))
          | (refine DW_ret ?_; simp [hnt, Try.ntmps81, Try.results81, anW8181, dProd, hlt, hx', hany, hidx])
          | (refine DW_exit ?_; simp [hnt, Try.ntmps81, Try.results81, anW8181, dProd, hlt, hx', hany, hidx])
          | (refine DW_skip ?_; simp [hnt, Try.ntmps81, Try.results81, anW8181, dProd, hlt, hx', hany, hidx])
          | (intro hc; (try simp [hnt, Try.ntmps81, Try.results81, anW8181, dProd, hlt, hx', hany, hidx] at hc); done)
          | (intro hc; (try simp [hnt, Try.ntmps81, Try.results81, anW8181, dProd, hlt, hx', hany, hidx] at hc); (first | (exfalso; omega) | skip))
          | (refine callP_mk (hqx) ?_; try simp [hnt, Try.ntmps81, Try.results81, anW8181, dProd, hlt, hx', hany, hidx])
          | (refine callP_wk (hqx) ?_ ?_; (· (simp; done)); try simp [hnt, Try.ntmps81, Try.results81, anW8181, dProd, hlt, hx', hany, hidx])
          | (refine ⟨?_, ?_⟩; · omega)
          | omega
          | apply_assumption -exfalso -symm
          | (exfalso; omega)))
  · have hkk : k = l.length := by omega
    have hany : l.any q = false := by
      rw [List.any_eq_false]
      intro x hx
      obtain ⟨i, hi, rfl⟩ := List.getElem_of_mem hx
      rw [hno i _ (by omega) (List.getElem?_eq_getElem hi)]
      simp
    (repeat (first
        | (refine DW_seq fun K hK => ?_)
        | (refine DW_r anW8181 Try.mixed (by kernel_rfl) ?_; simp [hnt, Try.ntmps81, Try.results81, anW8181, dProd, hkk, hany]; try simp (disch := omega) only [wrap64_in])
        | (refine DW_block ?_)
        | (focus (refine DW_if ?_ ?_ ?_; (· (simp [hnt, Try.ntmps81, Try.results81, anW8181, dProd, hkk, hany]; done)); (try (rotate_left; (· (intro hc; (try simp [hnt, Try.ntmps81, Try.results81, anW8181, dProd, hkk, hany] at hc); done))))))
        | (refine DW_ret ?_; simp [hnt, Try.ntmps81, Try.results81, anW8181, dProd, hkk, hany])
        | (refine DW_exit ?_; simp [hnt, Try.ntmps81, Try.results81, anW8181, dProd, hkk, hany])
        | (refine DW_skip ?_; simp [hnt, Try.ntmps81, Try.results81, anW8181, dProd, hkk, hany])
        | (intro hc; (try simp [hnt, Try.ntmps81, Try.results81, anW8181, dProd, hkk, hany] at hc); done)
        | (intro hc; (try simp [hnt, Try.ntmps81, Try.results81, anW8181, dProd, hkk, hany] at hc); (first | (exfalso; omega) | skip))
        | (refine callP_mk (hqx) ?_; try simp [hnt, Try.ntmps81, Try.results81, anW8181, dProd, hkk, hany])
        | (refine callP_wk (hqx) ?_ ?_; (· (simp; done)); try simp [hnt, Try.ntmps81, Try.results81, anW8181, dProd, hkk, hany])
        | (refine ⟨?_, ?_⟩; · omega)
        | omega
        | apply_assumption -exfalso -symm
        | (exfalso; omega)))

def anW8141 : Ann := ⟨[], []⟩
theorem containsFunc41_pure (g : FuncId) (us cs : List DVal) (l : List Prod) (q : Prod → Bool) (hq : ∀ x ∈ l, DPure Try.prog g (us ++ [.agg (dProd x)] ++ cs) (.bool (q x))) :
    DPure Try.prog 41 [dProds l, .fn (.func g) us cs] (.bool (l.any q)) := by
  refine DPure_introF [] (fn := Try.f41) Try.func41 rfl Try.call41 (by simp [Try.ntmps41]) (by simp [mx]) ?_
  intro hwf B hnt
  simp only [argS]
  have hi := indexFunc81_pure g us cs l q hq
  have hge : (0 : Int) ≤ (l.findIdx q : Nat) := by omega
  cases hb : l.any q
  · rw [hb] at hi
    (repeat (first
        | (refine DW_seq fun K hK => ?_)
        | (refine DW_r anW8141 Try.mixed (by kernel_rfl) ?_; simp [hnt, Try.ntmps41, Try.results41, anW8141, hb]; try simp (disch := omega) only [wrap64_in])
        | (refine DW_block ?_)
        | (focus (refine DW_if ?_ ?_ ?_; (· (simp [hnt, Try.ntmps41, Try.results41, anW8141, hb]; done)); (try (rotate_left; (· (intro hc; (try simp [hnt, Try.ntmps41, Try.results41, anW8141, hb] at hc); done))))))
        | (refine DW_ret ?_; simp [hnt, Try.ntmps41, Try.results41, anW8141, hb])
        | (refine DW_exit ?_; simp [hnt, Try.ntmps41, Try.results41, anW8141, hb])
        | (refine DW_skip ?_; simp [hnt, Try.ntmps41, Try.results41, anW8141, hb])
        | (intro hc; (try simp [hnt, Try.ntmps41, Try.results41, anW8141, hb] at hc); done)
        | (intro hc; (try simp [hnt, Try.ntmps41, Try.results41, anW8141, hb] at hc); (first | (exfalso; omega) | skip))
        | (refine callP_mk (hi) ?_; try simp [hnt, Try.ntmps41, Try.results41, anW8141, hb])
        | (refine callP_wk (hi) ?_ ?_; (· (simp; done)); try simp [hnt, Try.ntmps41, Try.results41, anW8141, hb])
        | (refine ⟨?_, ?_⟩; · omega)
        | omega
        | apply_assumption -exfalso -symm
        | (exfalso; omega)))
  · rw [hb] at hi
    (repeat (first
        | (refine DW_seq fun K hK => ?_)
        | (refine DW_r anW8141 Try.mixed (by kernel_rfl) ?_; simp [hnt, Try.ntmps41, Try.results41, anW8141, hb]; try simp (disch := omega) only [wrap64_in])
        | (refine DW_block ?_)
        | (focus (refine DW_if ?_ ?_ ?_; (· (simp [hnt, Try.ntmps41, Try.results41, anW8141, hb]; done)); (try (rotate_left; (· (intro hc; (try simp [hnt, Try.ntmps41, Try.results41, anW8141, hb] at hc); done))))))
        | (refine DW_ret ?_; simp [hnt, Try.ntmps41, Try.results41, anW8141, hb])
        | (refine DW_exit ?_; simp [hnt, Try.ntmps41, Try.results41, anW8141, hb])
        | (refine DW_skip ?_; simp [hnt, Try.ntmps41, Try.results41, anW8141, hb])
        | (intro hc; (try simp [hnt, Try.ntmps41, Try.results41, anW8141, hb] at hc); done)
        | (intro hc; (try simp [hnt, Try.ntmps41, Try.results41, anW8141, hb] at hc); (first | (exfalso; omega) | skip))
        | (refine callP_mk (hi) ?_; try simp [hnt, Try.ntmps41, Try.results41, anW8141, hb])
        | (refine callP_wk (hi) ?_ ?_; (· (simp; done)); try simp [hnt, Try.ntmps41, Try.results41, anW8141, hb])
        | (refine ⟨?_, ?_⟩; · omega)
        | omega
        | apply_assumption -exfalso -symm
        | (exfalso; omega)))
end Go.Proofs.Ytihkcegelghcpaa
end

section
/- A part of a proof: walks over the functions that it names; their contracts hold for every argument. -/



set_option linter.unusedSimpArgs false
set_option linter.unusedVariables false
namespace Go.Proofs.Ytihkcegelghcpaa
open Go Go.Dm
attribute [local irreducible] DW callP callS
set_option maxRecDepth 100000

def isOther (p : Prod) : Bool := formOf p.body == 0
def cnfWeak (c : Cnf) : Bool := cnfOK c && !c.prods.any isOther
def anW1342 : Ann := ⟨[], []⟩
theorem is1_pure (p : Prod) : DPure Try.prog 42 [.agg (dProd p)] (.bool (isOther p)) := by
  refine DPure_introF [] (fn := Try.f42) Try.func42 rfl Try.call42 (by simp [Try.ntmps42]) (by simp [mx]) ?_
  intro hwf B hnt
  simp only [argS]
  (repeat (first
      | (refine DW_seq fun K hK => ?_)
      | (refine DW_r anW1342 Try.mixed (by kernel_rfl) ?_; simp [hnt, Try.ntmps42, Try.results42, anW1342, dProd, isOther]; try simp (disch := omega) only [wrap64_in])
      | (refine DW_block ?_)
      | (focus (refine DW_if ?_ ?_ ?_; (· (simp [hnt, Try.ntmps42, Try.results42, anW1342, dProd, isOther]; done)); (try (rotate_left; (· (intro hc; (try simp [hnt, Try.ntmps42, Try.results42, anW1342, dProd, isOther] at hc); done))))))
      | (refine DW_ret ?_; simp [hnt, Try.ntmps42, Try.results42, anW1342, dProd, isOther])
      | (refine DW_exit ?_; simp [hnt, Try.ntmps42, Try.results42, anW1342, dProd, isOther])
      | (refine DW_skip ?_; simp [hnt, Try.ntmps42, Try.results42, anW1342, dProd, isOther])
      | (intro hc; (try simp [hnt, Try.ntmps42, Try.results42, anW1342, dProd, isOther] at hc); done)
      | (intro hc; (try simp [hnt, Try.ntmps42, Try.results42, anW1342, dProd, isOther] at hc); (first | (exfalso; omega) | skip))
      | (refine callP_mk (of_pure p.body) ?_; try simp [hnt, Try.ntmps42, Try.results42, anW1342, dProd, isOther])
      | (refine callP_wk (of_pure p.body) ?_ ?_; (· (simp; done)); try simp [hnt, Try.ntmps42, Try.results42, anW1342, dProd, isOther])
      | (refine ⟨?_, ?_⟩; · omega)
      | omega
      | apply_assumption -exfalso -symm
      | (exfalso; omega)))

def anW1313 : Ann := ⟨[], []⟩
theorem is_pure (c : Cnf) : DPure Try.prog 13 [.agg (dCnf c)] (.bool (cnfWeak c)) := by
  refine DPure_introF [] (fn := Try.f13) Try.func13 rfl Try.call13 (by simp [Try.ntmps13]) (by simp [mx]) ?_
  intro hwf B hnt
  simp only [argS]
  have hq := containsFunc41_pure 42 [] [] c.prods isOther (fun x _ => is1_pure x)
  have hc := check_pure c
  simp only [dCnf] at hc
  cases h1 : cnfOK c
  · rw [h1] at hc
    (repeat (first
        | (refine DW_seq fun K hK => ?_)
        | (refine DW_r anW1313 Try.mixed (by kernel_rfl) ?_; simp [hnt, Try.ntmps13, Try.results13, anW1313, dCnf, cnfWeak, h1]; try simp (disch := omega) only [wrap64_in])
        | (refine DW_block ?_)
        | (focus (refine DW_if ?_ ?_ ?_; (· (simp [hnt, Try.ntmps13, Try.results13, anW1313, dCnf, cnfWeak, h1]; done)); (try (rotate_left; (· (intro hc; (try simp [hnt, Try.ntmps13, Try.results13, anW1313, dCnf, cnfWeak, h1] at hc); done))))))
        | (refine DW_ret ?_; simp [hnt, Try.ntmps13, Try.results13, anW1313, dCnf, cnfWeak, h1])
        | (refine DW_exit ?_; simp [hnt, Try.ntmps13, Try.results13, anW1313, dCnf, cnfWeak, h1])
        | (refine DW_skip ?_; simp [hnt, Try.ntmps13, Try.results13, anW1313, dCnf, cnfWeak, h1])
        | (intro hc; (try simp [hnt, Try.ntmps13, Try.results13, anW1313, dCnf, cnfWeak, h1] at hc); done)
        | (intro hc; (try simp [hnt, Try.ntmps13, Try.results13, anW1313, dCnf, cnfWeak, h1] at hc); (first | (exfalso; omega) | skip))
        | (refine callP_mk (hc) ?_; try simp [hnt, Try.ntmps13, Try.results13, anW1313, dCnf, cnfWeak, h1])
        | (refine callP_wk (hc) ?_ ?_; (· (simp; done)); try simp [hnt, Try.ntmps13, Try.results13, anW1313, dCnf, cnfWeak, h1])
        | (refine callP_mk (hq) ?_; try simp [hnt, Try.ntmps13, Try.results13, anW1313, dCnf, cnfWeak, h1])
        | (refine callP_wk (hq) ?_ ?_; (· (simp; done)); try simp [hnt, Try.ntmps13, Try.results13, anW1313, dCnf, cnfWeak, h1])
        | (refine ⟨?_, ?_⟩; · omega)
        | omega
        | apply_assumption -exfalso -symm
        | (exfalso; omega)))
  · rw [h1] at hc
    cases h2 : c.prods.any isOther
    · rw [h2] at hq
      (repeat (first
          | (refine DW_seq fun K hK => ?_)
          | (refine DW_r anW1313 Try.mixed (by kernel_rfl) ?_; simp [hnt, Try.ntmps13, Try.results13, anW1313, dCnf, cnfWeak, h1, h2]; try simp (disch := omega) only [wrap64_in])
          | (refine DW_block ?_)
          | (focus (refine DW_if ?_ ?_ ?_; (· (simp [hnt, Try.ntmps13, Try.results13, anW1313, dCnf, cnfWeak, h1, h2]; done)); (try (rotate_left; (· (intro hc; (try simp [hnt, Try.ntmps13, Try.results13, anW1313, dCnf, cnfWeak, h1, h2] at hc); done))))))
          | (refine DW_ret ?_; simp [hnt, Try.ntmps13, Try.results13, anW1313, dCnf, cnfWeak, h1, h2])
          | (refine DW_exit ?_; simp [hnt, Try.ntmps13, Try.results13, anW1313, dCnf, cnfWeak, h1, h2])
          | (refine DW_skip ?_; simp [hnt, Try.ntmps13, Try.results13, anW1313, dCnf, cnfWeak, h1, h2])
          | (intro hc; (try simp [hnt, Try.ntmps13, Try.results13, anW1313, dCnf, cnfWeak, h1, h2] at hc); done)
          | (intro hc; (try simp [hnt, Try.ntmps13, Try.results13, anW1313, dCnf, cnfWeak, h1, h2] at hc); (first | (exfalso; omega) | skip))
          | (refine callP_mk (hc) ?_; try simp [hnt, Try.ntmps13, Try.results13, anW1313, dCnf, cnfWeak, h1, h2])
          | (refine callP_wk (hc) ?_ ?_; (· (simp; done)); try simp [hnt, Try.ntmps13, Try.results13, anW1313, dCnf, cnfWeak, h1, h2])
          | (refine callP_mk (hq) ?_; try simp [hnt, Try.ntmps13, Try.results13, anW1313, dCnf, cnfWeak, h1, h2])
          | (refine callP_wk (hq) ?_ ?_; (· (simp; done)); try simp [hnt, Try.ntmps13, Try.results13, anW1313, dCnf, cnfWeak, h1, h2])
          | (refine ⟨?_, ?_⟩; · omega)
          | omega
          | apply_assumption -exfalso -symm
          | (exfalso; omega)))
    · rw [h2] at hq
      (repeat (first
          | (refine DW_seq fun K hK => ?_)
          | (refine DW_r anW1313 Try.mixed (by kernel_rfl) ?_; simp [hnt, Try.ntmps13, Try.results13, anW1313, dCnf, cnfWeak, h1, h2]; try simp (disch := omega) only [wrap64_in])
          | (refine DW_block ?_)
          | (focus (refine DW_if ?_ ?_ ?_; (· (simp [hnt, Try.ntmps13, Try.results13, anW1313, dCnf, cnfWeak, h1, h2]; done)); (try (rotate_left; (· (intro hc; (try simp [hnt, Try.ntmps13, Try.results13, anW1313, dCnf, cnfWeak, h1, h2] at hc); done))))))
          | (refine DW_ret ?_; simp [hnt, Try.ntmps13, Try.results13, anW1313, dCnf, cnfWeak, h1, h2])
          | (refine DW_exit ?_; simp [hnt, Try.ntmps13, Try.results13, anW1313, dCnf, cnfWeak, h1, h2])
          | (refine DW_skip ?_; simp [hnt, Try.ntmps13, Try.results13, anW1313, dCnf, cnfWeak, h1, h2])
          | (intro hc; (try simp [hnt, Try.ntmps13, Try.results13, anW1313, dCnf, cnfWeak, h1, h2] at hc); done)
          | (intro hc; (try simp [hnt, Try.ntmps13, Try.results13, anW1313, dCnf, cnfWeak, h1, h2] at hc); (first | (exfalso; omega) | skip))
          | (refine callP_mk (hc) ?_; try simp [hnt, Try.ntmps13, Try.results13, anW1313, dCnf, cnfWeak, h1, h2])
          | (refine callP_wk (hc) ?_ ?_; (· (simp; done)); try simp [hnt, Try.ntmps13, Try.results13, anW1313, dCnf, cnfWeak, h1, h2])
          | (refine callP_mk (hq) ?_; try simp [hnt, Try.ntmps13, Try.results13, anW1313, dCnf, cnfWeak, h1, h2])
          | (refine callP_wk (hq) ?_ ?_; (· (simp; done)); try simp [hnt, Try.ntmps13, Try.results13, anW1313, dCnf, cnfWeak, h1, h2])
          | (refine ⟨?_, ?_⟩; · omega)
          | omega
          | apply_assumption -exfalso -symm
          | (exfalso; omega)))

def anW1316 : Ann := ⟨[], []⟩
theorem head14_pure : DPure Try.prog 16 [] (.bool true) := by
  refine DPure_introF [] (fn := Try.f16) Try.func16 rfl Try.call16 (by simp [Try.ntmps16]) (by simp [mx]) ?_
  intro hwf B hnt
  simp only [argS]
  have h1 := is_pure ⟨1, []⟩
  have h2 := is_pure ⟨0, []⟩
  have e1 : cnfWeak ⟨1, []⟩ = true := by decide
  have e2 : cnfWeak ⟨0, []⟩ = false := by decide
  rw [e1] at h1
  rw [e2] at h2
  simp only [dCnf, dProds, List.map_nil] at h1 h2
  (repeat (first
      | (refine DW_seq fun K hK => ?_)
      | (refine DW_r anW1316 Try.mixed (by kernel_rfl) ?_; simp [hnt, Try.ntmps16, Try.results16, anW1316]; try simp (disch := omega) only [wrap64_in])
      | (refine DW_block ?_)
      | (focus (refine DW_if ?_ ?_ ?_; (· (simp [hnt, Try.ntmps16, Try.results16, anW1316]; done)); (try (rotate_left; (· (intro hc; (try simp [hnt, Try.ntmps16, Try.results16, anW1316] at hc); done))))))
      | (refine DW_ret ?_; simp [hnt, Try.ntmps16, Try.results16, anW1316])
      | (refine DW_exit ?_; simp [hnt, Try.ntmps16, Try.results16, anW1316])
      | (refine DW_skip ?_; simp [hnt, Try.ntmps16, Try.results16, anW1316])
      | (intro hc; (try simp [hnt, Try.ntmps16, Try.results16, anW1316] at hc); done)
      | (intro hc; (try simp [hnt, Try.ntmps16, Try.results16, anW1316] at hc); (first | (exfalso; omega) | skip))
      | (refine callP_mk (h1) ?_; try simp [hnt, Try.ntmps16, Try.results16, anW1316])
      | (refine callP_wk (h1) ?_ ?_; (· (simp; done)); try simp [hnt, Try.ntmps16, Try.results16, anW1316])
      | (refine callP_mk (h2) ?_; try simp [hnt, Try.ntmps16, Try.results16, anW1316])
      | (refine callP_wk (h2) ?_ ?_; (· (simp; done)); try simp [hnt, Try.ntmps16, Try.results16, anW1316])
      | (refine ⟨?_, ?_⟩; · omega)
      | omega
      | apply_assumption -exfalso -symm
      | (exfalso; omega)))
end Go.Proofs.Ytihkcegelghcpaa
end

section
/- A part of a proof: walks over the functions that it names; their contracts hold for every argument. -/

set_option linter.unusedSimpArgs false
set_option linter.unusedVariables false
namespace Go.Proofs.Ytihkcegelghcpaa
open Go Go.Dm
attribute [local irreducible] DW callP callS
set_option maxRecDepth 100000

def anW4545 : Ann := ⟨[], []⟩
theorem weak_pure (l : List Sym) : DPure Try.prog 45 [dSyms l] (.bool (!(formOf l == 0))) := by
  refine DPure_introF [] (fn := Try.f45) Try.func45 rfl Try.call45 (by simp [Try.ntmps45]) (by simp [mx]) ?_
  intro hwf B hnt
  simp only [argS]
  match l with
  | [] => (repeat (first
      | (refine DW_seq fun K hK => ?_)
      | (refine DW_r anW4545 Try.mixed (by kernel_rfl) ?_; simp [hnt, Try.ntmps45, Try.results45, anW4545, dSym, formOf]; try simp (disch := omega) only [wrap64_in])
      | (refine DW_block ?_)
      | (focus (refine DW_if ?_ ?_ ?_; (· (simp [hnt, Try.ntmps45, Try.results45, anW4545, dSym, formOf]; done)); (try (rotate_left; (· (intro hc; (try simp [hnt, Try.ntmps45, Try.results45, anW4545, dSym, formOf] at hc); done))))))
      | (refine DW_ret ?_; simp [hnt, Try.ntmps45, Try.results45, anW4545, dSym, formOf])
      | (refine DW_exit ?_; simp [hnt, Try.ntmps45, Try.results45, anW4545, dSym, formOf])
      | (refine DW_skip ?_; simp [hnt, Try.ntmps45, Try.results45, anW4545, dSym, formOf])
      | (intro hc; (try simp [hnt, Try.ntmps45, Try.results45, anW4545, dSym, formOf] at hc); done)
      | (intro hc; (try simp [hnt, Try.ntmps45, Try.results45, anW4545, dSym, formOf] at hc); (first | (exfalso; omega) | skip))
      | (refine ⟨?_, ?_⟩; · omega)
      | omega
      | apply_assumption -exfalso -symm
      | (exfalso; omega)))
  | [s] => cases hl : s.label <;> (repeat (first
      | (refine DW_seq fun K hK => ?_)
      | (refine DW_r anW4545 Try.mixed (by kernel_rfl) ?_; simp [hnt, Try.ntmps45, Try.results45, anW4545, dSym, formOf, hl]; try simp (disch := omega) only [wrap64_in])
      | (refine DW_block ?_)
      | (focus (refine DW_if ?_ ?_ ?_; (· (simp [hnt, Try.ntmps45, Try.results45, anW4545, dSym, formOf, hl]; done)); (try (rotate_left; (· (intro hc; (try simp [hnt, Try.ntmps45, Try.results45, anW4545, dSym, formOf, hl] at hc); done))))))
      | (refine DW_ret ?_; simp [hnt, Try.ntmps45, Try.results45, anW4545, dSym, formOf, hl])
      | (refine DW_exit ?_; simp [hnt, Try.ntmps45, Try.results45, anW4545, dSym, formOf, hl])
      | (refine DW_skip ?_; simp [hnt, Try.ntmps45, Try.results45, anW4545, dSym, formOf, hl])
      | (intro hc; (try simp [hnt, Try.ntmps45, Try.results45, anW4545, dSym, formOf, hl] at hc); done)
      | (intro hc; (try simp [hnt, Try.ntmps45, Try.results45, anW4545, dSym, formOf, hl] at hc); (first | (exfalso; omega) | skip))
      | (refine ⟨?_, ?_⟩; · omega)
      | omega
      | apply_assumption -exfalso -symm
      | (exfalso; omega)))
  | [s, t] => cases hl : s.label <;> cases ht : t.label <;> (repeat (first
      | (refine DW_seq fun K hK => ?_)
      | (refine DW_r anW4545 Try.mixed (by kernel_rfl) ?_; simp [hnt, Try.ntmps45, Try.results45, anW4545, dSym, formOf, hl, ht]; try simp (disch := omega) only [wrap64_in])
      | (refine DW_block ?_)
      | (focus (refine DW_if ?_ ?_ ?_; (· (simp [hnt, Try.ntmps45, Try.results45, anW4545, dSym, formOf, hl, ht]; done)); (try (rotate_left; (· (intro hc; (try simp [hnt, Try.ntmps45, Try.results45, anW4545, dSym, formOf, hl, ht] at hc); done))))))
      | (refine DW_ret ?_; simp [hnt, Try.ntmps45, Try.results45, anW4545, dSym, formOf, hl, ht])
      | (refine DW_exit ?_; simp [hnt, Try.ntmps45, Try.results45, anW4545, dSym, formOf, hl, ht])
      | (refine DW_skip ?_; simp [hnt, Try.ntmps45, Try.results45, anW4545, dSym, formOf, hl, ht])
      | (intro hc; (try simp [hnt, Try.ntmps45, Try.results45, anW4545, dSym, formOf, hl, ht] at hc); done)
      | (intro hc; (try simp [hnt, Try.ntmps45, Try.results45, anW4545, dSym, formOf, hl, ht] at hc); (first | (exfalso; omega) | skip))
      | (refine ⟨?_, ?_⟩; · omega)
      | omega
      | apply_assumption -exfalso -symm
      | (exfalso; omega)))
  | s :: t :: u :: r =>
    have hlen : ¬ ((r.length : Int) + 1 + 1 + 1 = 0) ∧ ¬ ((r.length : Int) + 1 + 1 + 1 = 1) ∧ ¬ ((r.length : Int) + 1 + 1 + 1 = 2) := by omega
    obtain ⟨g1, g2, g3⟩ := hlen
    (repeat (first
        | (refine DW_seq fun K hK => ?_)
        | (refine DW_r anW4545 Try.mixed (by kernel_rfl) ?_; simp [hnt, Try.ntmps45, Try.results45, anW4545, dSym, formOf, g1, g2, g3]; try simp (disch := omega) only [wrap64_in])
        | (refine DW_block ?_)
        | (focus (refine DW_if ?_ ?_ ?_; (· (simp [hnt, Try.ntmps45, Try.results45, anW4545, dSym, formOf, g1, g2, g3]; done)); (try (rotate_left; (· (intro hc; (try simp [hnt, Try.ntmps45, Try.results45, anW4545, dSym, formOf, g1, g2, g3] at hc); done))))))
        | (refine DW_ret ?_; simp [hnt, Try.ntmps45, Try.results45, anW4545, dSym, formOf, g1, g2, g3])
        | (refine DW_exit ?_; simp [hnt, Try.ntmps45, Try.results45, anW4545, dSym, formOf, g1, g2, g3])
        | (refine DW_skip ?_; simp [hnt, Try.ntmps45, Try.results45, anW4545, dSym, formOf, g1, g2, g3])
        | (intro hc; (try simp [hnt, Try.ntmps45, Try.results45, anW4545, dSym, formOf, g1, g2, g3] at hc); done)
        | (intro hc; (try simp [hnt, Try.ntmps45, Try.results45, anW4545, dSym, formOf, g1, g2, g3] at hc); (first | (exfalso; omega) | skip))
        | (refine ⟨?_, ?_⟩; · omega)
        | omega
        | apply_assumption -exfalso -symm
        | (exfalso; omega)))

def anW4528 : Ann := ⟨[], [⟨6, [4], [], []⟩, ⟨12, [6], [], []⟩]⟩
set_option maxHeartbeats 4000000 in
theorem rcheck_pure (c : Cnf) : DPure Try.prog 28 [.agg (dCnf c)] (.int .i64 (if cnfOK c then 0 else 220)) := by
  refine DPure_introF [] (fn := Try.f28) Try.func28 rfl Try.call28 (by simp [Try.ntmps28]) (by simp [mx]) ?_
  intro hwf B hnt
  have hw : wCnf c := w_cnf (by simpa [wfL, wfD] using hwf.1)
  obtain ⟨hw1, hw2, hw3, hw4⟩ := hw
  clear hwf hw1
  simp only [argS]
  by_cases h1 : 1 ≤ c.nts
  rotate_left
  · have h1' : c.nts < 1 := by omega
    have hno : cnfOK c = false := by simp [cnfOK, h1]
    (repeat (first
        | (refine DW_seq fun K hK => ?_)
        | (refine DW_r anW4528 Try.mixed (by kernel_rfl) ?_; simp [hnt, Try.ntmps28, Try.results28, anW4528, dCnf, h1', hno]; try simp (disch := omega) only [wrap64_in])
        | (refine DW_block ?_)
        | (focus (refine DW_if ?_ ?_ ?_; (· (simp [hnt, Try.ntmps28, Try.results28, anW4528, dCnf, h1', hno]; done)); (try (rotate_left; (· (intro hc; (try simp [hnt, Try.ntmps28, Try.results28, anW4528, dCnf, h1', hno] at hc); done))))))
        | (refine DW_ret ?_; simp [hnt, Try.ntmps28, Try.results28, anW4528, dCnf, h1', hno])
        | (refine DW_exit ?_; simp [hnt, Try.ntmps28, Try.results28, anW4528, dCnf, h1', hno])
        | (refine DW_skip ?_; simp [hnt, Try.ntmps28, Try.results28, anW4528, dCnf, h1', hno])
        | (intro hc; (try simp [hnt, Try.ntmps28, Try.results28, anW4528, dCnf, h1', hno] at hc); done)
        | (intro hc; (try simp [hnt, Try.ntmps28, Try.results28, anW4528, dCnf, h1', hno] at hc); (first | (exfalso; omega) | skip))
        | (refine ⟨?_, ?_⟩; · omega)
        | omega
        | apply_assumption -exfalso -symm
        | (exfalso; omega)))
  by_cases h2 : c.nts ≤ 1024
  rotate_left
  · have h2' : 1024 < c.nts := by omega
    have h1' : ¬ c.nts < 1 := by omega
    have hno : cnfOK c = false := by simp [cnfOK, h2]
    (repeat (first
        | (refine DW_seq fun K hK => ?_)
        | (refine DW_r anW4528 Try.mixed (by kernel_rfl) ?_; simp [hnt, Try.ntmps28, Try.results28, anW4528, dCnf, h1', h2', hno]; try simp (disch := omega) only [wrap64_in])
        | (refine DW_block ?_)
        | (focus (refine DW_if ?_ ?_ ?_; (· (simp [hnt, Try.ntmps28, Try.results28, anW4528, dCnf, h1', h2', hno]; done)); (try (rotate_left; (· (intro hc; (try simp [hnt, Try.ntmps28, Try.results28, anW4528, dCnf, h1', h2', hno] at hc); done))))))
        | (refine DW_ret ?_; simp [hnt, Try.ntmps28, Try.results28, anW4528, dCnf, h1', h2', hno])
        | (refine DW_exit ?_; simp [hnt, Try.ntmps28, Try.results28, anW4528, dCnf, h1', h2', hno])
        | (refine DW_skip ?_; simp [hnt, Try.ntmps28, Try.results28, anW4528, dCnf, h1', h2', hno])
        | (intro hc; (try simp [hnt, Try.ntmps28, Try.results28, anW4528, dCnf, h1', h2', hno] at hc); done)
        | (intro hc; (try simp [hnt, Try.ntmps28, Try.results28, anW4528, dCnf, h1', h2', hno] at hc); (first | (exfalso; omega) | skip))
        | (refine ⟨?_, ?_⟩; · omega)
        | omega
        | apply_assumption -exfalso -symm
        | (exfalso; omega)))
  have h1' : ¬ c.nts < 1 := by omega
  have h2' : ¬ 1024 < c.nts := by omega
  have hok : cnfOK c = c.prods.all (prodOK c) := by simp [cnfOK, h1, h2]
  (repeat (first
      | (refine DW_seq fun K hK => ?_)
      | (refine DW_r anW4528 Try.mixed (by kernel_rfl) ?_; simp [hnt, Try.ntmps28, Try.results28, anW4528, dCnf, h1', h2']; try simp (disch := omega) only [wrap64_in])
      | (refine DW_block ?_)
      | (focus (refine DW_if ?_ ?_ ?_; (· (simp [hnt, Try.ntmps28, Try.results28, anW4528, dCnf, h1', h2']; done)); (try (rotate_left; (· (intro hc; (try simp [hnt, Try.ntmps28, Try.results28, anW4528, dCnf, h1', h2'] at hc); done))))))
      | (refine DW_ret ?_; simp [hnt, Try.ntmps28, Try.results28, anW4528, dCnf, h1', h2'])
      | (refine DW_exit ?_; simp [hnt, Try.ntmps28, Try.results28, anW4528, dCnf, h1', h2'])
      | (refine DW_skip ?_; simp [hnt, Try.ntmps28, Try.results28, anW4528, dCnf, h1', h2'])
      | (intro hc; (try simp [hnt, Try.ntmps28, Try.results28, anW4528, dCnf, h1', h2'] at hc); done)
      | (intro hc; (try simp [hnt, Try.ntmps28, Try.results28, anW4528, dCnf, h1', h2'] at hc); (first | (exfalso; omega) | skip))
      | (refine ⟨?_, ?_⟩; · omega)
      | omega
      | apply_assumption -exfalso -symm
      | (exfalso; omega)))
  refine DW_loop (X := {k : Nat // k ≤ c.prods.length ∧ (c.prods.take k).all (prodOK c) = true}) (fun k => ⟨[(1, .ref [.int .i64 c.nts, dProds c.prods]), (3, .int .i64 k.1)], []⟩) (fun k => c.prods.length - k.1) ⟨0, by simp⟩ (Sub.lit (by simp)) ?_
  rintro ⟨k, hk, hkk⟩
  by_cases hlt : k < c.prods.length
  rotate_left
  · have hke : k = c.prods.length := by omega
    subst hke
    rw [List.take_length] at hkk
    rw [hkk] at hok
    (repeat (first
        | (refine DW_seq fun K hK => ?_)
        | (refine DW_r anW4528 Try.mixed (by kernel_rfl) ?_; simp [hnt, Try.ntmps28, Try.results28, anW4528, dCnf, hok]; try simp (disch := omega) only [wrap64_in])
        | (refine DW_block ?_)
        | (focus (refine DW_if ?_ ?_ ?_; (· (simp [hnt, Try.ntmps28, Try.results28, anW4528, dCnf, hok]; done)); (try (rotate_left; (· (intro hc; (try simp [hnt, Try.ntmps28, Try.results28, anW4528, dCnf, hok] at hc); done))))))
        | (refine DW_ret ?_; simp [hnt, Try.ntmps28, Try.results28, anW4528, dCnf, hok])
        | (refine DW_exit ?_; simp [hnt, Try.ntmps28, Try.results28, anW4528, dCnf, hok])
        | (refine DW_skip ?_; simp [hnt, Try.ntmps28, Try.results28, anW4528, dCnf, hok])
        | (intro hc; (try simp [hnt, Try.ntmps28, Try.results28, anW4528, dCnf, hok] at hc); done)
        | (intro hc; (try simp [hnt, Try.ntmps28, Try.results28, anW4528, dCnf, hok] at hc); (first | (exfalso; omega) | skip))
        | (refine ⟨?_, ?_⟩; · omega)
        | omega
        | apply_assumption -exfalso -symm
        | (exfalso; omega)))
  obtain ⟨p, hp, hp', hpm⟩ := at_lt' hlt
  obtain ⟨hw5, hw6, hw7, hw8⟩ := hw4 p hpm
  have hbad : prodOK c p = false → cnfOK c = false := by
    intro hb
    rw [hok, List.all_eq_false]
    exact ⟨p, hpm, by simp [hb]⟩
  have hstep : prodOK c p = true → (c.prods.take (k + 1)).all (prodOK c) = true := by
    intro hb
    rw [List.take_succ_eq_append_getElem hlt, List.all_append, hkk, hp']; simp [hb]
  by_cases hh1 : p.head < 0
  · have := hbad (by simp [prodOK, ntOK, show ¬ (0 ≤ p.head) by omega])
    (repeat (first
        | (refine DW_seq fun K hK => ?_)
        | (refine DW_r anW4528 Try.mixed (by kernel_rfl) ?_; simp [hnt, Try.ntmps28, Try.results28, anW4528, dCnf, dProd, hlt, hp', hh1, this]; try simp (disch := omega) only [wrap64_in])
        | (refine DW_block ?_)
        | (focus (refine DW_if ?_ ?_ ?_; (· (simp [hnt, Try.ntmps28, Try.results28, anW4528, dCnf, dProd, hlt, hp', hh1, this]; done)); (try (rotate_left; (· (intro hc; (try simp [hnt, Try.ntmps28, Try.results28, anW4528, dCnf, dProd, hlt, hp', hh1, this] at hc); done))))))
        | (refine DW_ret ?_; simp [hnt, Try.ntmps28, Try.results28, anW4528, dCnf, dProd, hlt, hp', hh1, this])
        | (refine DW_exit ?_; simp [hnt, Try.ntmps28, Try.results28, anW4528, dCnf, dProd, hlt, hp', hh1, this])
        | (refine DW_skip ?_; simp [hnt, Try.ntmps28, Try.results28, anW4528, dCnf, dProd, hlt, hp', hh1, this])
        | (intro hc; (try simp [hnt, Try.ntmps28, Try.results28, anW4528, dCnf, dProd, hlt, hp', hh1, this] at hc); done)
        | (intro hc; (try simp [hnt, Try.ntmps28, Try.results28, anW4528, dCnf, dProd, hlt, hp', hh1, this] at hc); (first | (exfalso; omega) | skip))
        | (refine ⟨?_, ?_⟩; · omega)
        | omega
        | apply_assumption -exfalso -symm
        | (exfalso; omega)))
  by_cases hh2 : c.nts ≤ p.head
  · have := hbad (by simp [prodOK, ntOK, show ¬ (p.head < c.nts) by omega])
    (repeat (first
        | (refine DW_seq fun K hK => ?_)
        | (refine DW_r anW4528 Try.mixed (by kernel_rfl) ?_; simp [hnt, Try.ntmps28, Try.results28, anW4528, dCnf, dProd, hlt, hp', hh1, hh2, this]; try simp (disch := omega) only [wrap64_in])
        | (refine DW_block ?_)
        | (focus (refine DW_if ?_ ?_ ?_; (· (simp [hnt, Try.ntmps28, Try.results28, anW4528, dCnf, dProd, hlt, hp', hh1, hh2, this]; done)); (try (rotate_left; (· (intro hc; (try simp [hnt, Try.ntmps28, Try.results28, anW4528, dCnf, dProd, hlt, hp', hh1, hh2, this] at hc); done))))))
        | (refine DW_ret ?_; simp [hnt, Try.ntmps28, Try.results28, anW4528, dCnf, dProd, hlt, hp', hh1, hh2, this])
        | (refine DW_exit ?_; simp [hnt, Try.ntmps28, Try.results28, anW4528, dCnf, dProd, hlt, hp', hh1, hh2, this])
        | (refine DW_skip ?_; simp [hnt, Try.ntmps28, Try.results28, anW4528, dCnf, dProd, hlt, hp', hh1, hh2, this])
        | (intro hc; (try simp [hnt, Try.ntmps28, Try.results28, anW4528, dCnf, dProd, hlt, hp', hh1, hh2, this] at hc); done)
        | (intro hc; (try simp [hnt, Try.ntmps28, Try.results28, anW4528, dCnf, dProd, hlt, hp', hh1, hh2, this] at hc); (first | (exfalso; omega) | skip))
        | (refine ⟨?_, ?_⟩; · omega)
        | omega
        | apply_assumption -exfalso -symm
        | (exfalso; omega)))
  have hnt' : ntOK c p.head = true := by simp [ntOK, show 0 ≤ p.head by omega, show p.head < c.nts by omega]
  (repeat (first
      | (refine DW_seq fun K hK => ?_)
      | (refine DW_r anW4528 Try.mixed (by kernel_rfl) ?_; simp [hnt, Try.ntmps28, Try.results28, anW4528, dCnf, dProd, hlt, hp', hh1, hh2]; try simp (disch := omega) only [wrap64_in])
      | (refine DW_block ?_)
      | (focus (refine DW_if ?_ ?_ ?_; (· (simp [hnt, Try.ntmps28, Try.results28, anW4528, dCnf, dProd, hlt, hp', hh1, hh2]; done)); (try (rotate_left; (· (intro hc; (try simp [hnt, Try.ntmps28, Try.results28, anW4528, dCnf, dProd, hlt, hp', hh1, hh2] at hc); done))))))
      | (refine DW_ret ?_; simp [hnt, Try.ntmps28, Try.results28, anW4528, dCnf, dProd, hlt, hp', hh1, hh2])
      | (refine DW_exit ?_; simp [hnt, Try.ntmps28, Try.results28, anW4528, dCnf, dProd, hlt, hp', hh1, hh2])
      | (refine DW_skip ?_; simp [hnt, Try.ntmps28, Try.results28, anW4528, dCnf, dProd, hlt, hp', hh1, hh2])
      | (intro hc; (try simp [hnt, Try.ntmps28, Try.results28, anW4528, dCnf, dProd, hlt, hp', hh1, hh2] at hc); done)
      | (intro hc; (try simp [hnt, Try.ntmps28, Try.results28, anW4528, dCnf, dProd, hlt, hp', hh1, hh2] at hc); (first | (exfalso; omega) | skip))
      | (refine ⟨?_, ?_⟩; · omega)
      | omega
      | apply_assumption -exfalso -symm
      | (exfalso; omega)))
  refine DW_loop (X := {j : Nat // j ≤ p.body.length ∧ (p.body.take j).any (symBad c) = false}) (fun j => ⟨[(1, .ref [.int .i64 c.nts, dProds c.prods]), (3, .int .i64 k), (4, .ref [.int .i64 p.head, dSyms p.body]), (5, .int .i64 j.1)], []⟩) (fun j => p.body.length - j.1) ⟨0, by simp⟩ (Sub.lit (by simp)) ?_
  rintro ⟨j, hj, hjj⟩
  by_cases hlj : j < p.body.length
  rotate_left
  · have hje : j = p.body.length := by omega
    subst hje
    rw [List.take_length] at hjj
    have hgood := hstep (by simp [prodOK, hnt', hjj])
    (repeat (first
        | (refine DW_seq fun K hK => ?_)
        | (refine DW_r anW4528 Try.mixed (by kernel_rfl) ?_; simp [hnt, Try.ntmps28, Try.results28, anW4528]; try simp (disch := omega) only [wrap64_in])
        | (refine DW_block ?_)
        | (focus (refine DW_if ?_ ?_ ?_; (· (simp [hnt, Try.ntmps28, Try.results28, anW4528]; done)); (try (rotate_left; (· (intro hc; (try simp [hnt, Try.ntmps28, Try.results28, anW4528] at hc); done))))))
        | (refine DW_ret ?_; simp [hnt, Try.ntmps28, Try.results28, anW4528])
        | (refine DW_exit ?_; simp [hnt, Try.ntmps28, Try.results28, anW4528])
        | (refine DW_skip ?_; simp [hnt, Try.ntmps28, Try.results28, anW4528])
        | (intro hc; (try simp [hnt, Try.ntmps28, Try.results28, anW4528] at hc); done)
        | (intro hc; (try simp [hnt, Try.ntmps28, Try.results28, anW4528] at hc); (first | (exfalso; omega) | skip))
        | (refine ⟨?_, ?_⟩; · omega)
        | omega
        | apply_assumption -exfalso -symm
        | (exfalso; omega)))
    refine Again.mk ⟨k + 1, by omega, hgood⟩ (Sub.lit (by simp)) (by simp; omega)
    (repeat (first
        | (refine DW_seq fun K hK => ?_)
        | (refine DW_r anW4528 Try.mixed (by kernel_rfl) ?_; simp [hnt, Try.ntmps28, Try.results28, anW4528]; try simp (disch := omega) only [wrap64_in])
        | (refine DW_block ?_)
        | (focus (refine DW_if ?_ ?_ ?_; (· (simp [hnt, Try.ntmps28, Try.results28, anW4528]; done)); (try (rotate_left; (· (intro hc; (try simp [hnt, Try.ntmps28, Try.results28, anW4528] at hc); done))))))
        | (refine DW_ret ?_; simp [hnt, Try.ntmps28, Try.results28, anW4528])
        | (refine DW_exit ?_; simp [hnt, Try.ntmps28, Try.results28, anW4528])
        | (refine DW_skip ?_; simp [hnt, Try.ntmps28, Try.results28, anW4528])
        | (intro hc; (try simp [hnt, Try.ntmps28, Try.results28, anW4528] at hc); done)
        | (intro hc; (try simp [hnt, Try.ntmps28, Try.results28, anW4528] at hc); (first | (exfalso; omega) | skip))
        | (refine ⟨?_, ?_⟩; · omega)
        | omega
        | apply_assumption -exfalso -symm
        | (exfalso; omega)))
  obtain ⟨s, hs, hs', hsm⟩ := at_lt' hlj
  have hsn := hw8 s hsm
  have hb2 : symBad c s = true → cnfOK c = false := by
    intro hb
    refine hbad ?_
    simp only [prodOK, hnt', Bool.true_and, Bool.not_eq_false', List.any_eq_true]
    exact ⟨s, hsm, hb⟩
  have hst2 : symBad c s = false → (p.body.take (j + 1)).any (symBad c) = false := by
    intro hb
    rw [List.take_succ_eq_append_getElem hlj, List.any_append, hjj, hs']; simp [hb]
  by_cases hs1 : s.n < 0
  · have := hb2 (by cases hl : s.label <;> simp [symBad, hl, hs1, ntOK, show ¬ (0 ≤ s.n) by omega])
    (repeat (first
        | (refine DW_seq fun K hK => ?_)
        | (refine DW_r anW4528 Try.mixed (by kernel_rfl) ?_; simp [hnt, Try.ntmps28, Try.results28, anW4528, dSym, hlj, hs', hs1, this]; try simp (disch := omega) only [wrap64_in])
        | (refine DW_block ?_)
        | (focus (refine DW_if ?_ ?_ ?_; (· (simp [hnt, Try.ntmps28, Try.results28, anW4528, dSym, hlj, hs', hs1, this]; done)); (try (rotate_left; (· (intro hc; (try simp [hnt, Try.ntmps28, Try.results28, anW4528, dSym, hlj, hs', hs1, this] at hc); done))))))
        | (refine DW_ret ?_; simp [hnt, Try.ntmps28, Try.results28, anW4528, dSym, hlj, hs', hs1, this])
        | (refine DW_exit ?_; simp [hnt, Try.ntmps28, Try.results28, anW4528, dSym, hlj, hs', hs1, this])
        | (refine DW_skip ?_; simp [hnt, Try.ntmps28, Try.results28, anW4528, dSym, hlj, hs', hs1, this])
        | (intro hc; (try simp [hnt, Try.ntmps28, Try.results28, anW4528, dSym, hlj, hs', hs1, this] at hc); done)
        | (intro hc; (try simp [hnt, Try.ntmps28, Try.results28, anW4528, dSym, hlj, hs', hs1, this] at hc); (first | (exfalso; omega) | skip))
        | (refine ⟨?_, ?_⟩; · omega)
        | omega
        | apply_assumption -exfalso -symm
        | (exfalso; omega)))
  cases hl : s.label
  · by_cases hs2 : c.nts ≤ s.n
    · have := hb2 (by simp [symBad, hl, ntOK, show ¬ (s.n < c.nts) by omega])
      (repeat (first
          | (refine DW_seq fun K hK => ?_)
          | (refine DW_r anW4528 Try.mixed (by kernel_rfl) ?_; simp [hnt, Try.ntmps28, Try.results28, anW4528, dSym, hlj, hs', hs1, hs2, hl, this]; try simp (disch := omega) only [wrap64_in])
          | (refine DW_block ?_)
          | (focus (refine DW_if ?_ ?_ ?_; (· (simp [hnt, Try.ntmps28, Try.results28, anW4528, dSym, hlj, hs', hs1, hs2, hl, this]; done)); (try (rotate_left; (· (intro hc; (try simp [hnt, Try.ntmps28, Try.results28, anW4528, dSym, hlj, hs', hs1, hs2, hl, this] at hc); done))))))
          | (refine DW_ret ?_; simp [hnt, Try.ntmps28, Try.results28, anW4528, dSym, hlj, hs', hs1, hs2, hl, this])
          | (refine DW_exit ?_; simp [hnt, Try.ntmps28, Try.results28, anW4528, dSym, hlj, hs', hs1, hs2, hl, this])
          | (refine DW_skip ?_; simp [hnt, Try.ntmps28, Try.results28, anW4528, dSym, hlj, hs', hs1, hs2, hl, this])
          | (intro hc; (try simp [hnt, Try.ntmps28, Try.results28, anW4528, dSym, hlj, hs', hs1, hs2, hl, this] at hc); done)
          | (intro hc; (try simp [hnt, Try.ntmps28, Try.results28, anW4528, dSym, hlj, hs', hs1, hs2, hl, this] at hc); (first | (exfalso; omega) | skip))
          | (refine ⟨?_, ?_⟩; · omega)
          | omega
          | apply_assumption -exfalso -symm
          | (exfalso; omega)))
    · have hgd := hst2 (by simp [symBad, hl, ntOK, show 0 ≤ s.n by omega, show s.n < c.nts by omega])
      (repeat (first
          | (refine DW_seq fun K hK => ?_)
          | (refine DW_r anW4528 Try.mixed (by kernel_rfl) ?_; simp [hnt, Try.ntmps28, Try.results28, anW4528, dSym, hlj, hs', hs1, hs2, hl]; try simp (disch := omega) only [wrap64_in])
          | (refine DW_block ?_)
          | (focus (refine DW_if ?_ ?_ ?_; (· (simp [hnt, Try.ntmps28, Try.results28, anW4528, dSym, hlj, hs', hs1, hs2, hl]; done)); (try (rotate_left; (· (intro hc; (try simp [hnt, Try.ntmps28, Try.results28, anW4528, dSym, hlj, hs', hs1, hs2, hl] at hc); done))))))
          | (refine DW_ret ?_; simp [hnt, Try.ntmps28, Try.results28, anW4528, dSym, hlj, hs', hs1, hs2, hl])
          | (refine DW_exit ?_; simp [hnt, Try.ntmps28, Try.results28, anW4528, dSym, hlj, hs', hs1, hs2, hl])
          | (refine DW_skip ?_; simp [hnt, Try.ntmps28, Try.results28, anW4528, dSym, hlj, hs', hs1, hs2, hl])
          | (intro hc; (try simp [hnt, Try.ntmps28, Try.results28, anW4528, dSym, hlj, hs', hs1, hs2, hl] at hc); done)
          | (intro hc; (try simp [hnt, Try.ntmps28, Try.results28, anW4528, dSym, hlj, hs', hs1, hs2, hl] at hc); (first | (exfalso; omega) | skip))
          | (refine ⟨?_, ?_⟩; · omega)
          | omega
          | apply_assumption -exfalso -symm
          | (exfalso; omega)))
      refine Again.mk ⟨j + 1, by omega, hgd⟩ (Sub.lit (by simp)) (by simp; omega)
      (repeat (first
          | (refine DW_seq fun K hK => ?_)
          | (refine DW_r anW4528 Try.mixed (by kernel_rfl) ?_; simp [hnt, Try.ntmps28, Try.results28, anW4528]; try simp (disch := omega) only [wrap64_in])
          | (refine DW_block ?_)
          | (focus (refine DW_if ?_ ?_ ?_; (· (simp [hnt, Try.ntmps28, Try.results28, anW4528]; done)); (try (rotate_left; (· (intro hc; (try simp [hnt, Try.ntmps28, Try.results28, anW4528] at hc); done))))))
          | (refine DW_ret ?_; simp [hnt, Try.ntmps28, Try.results28, anW4528])
          | (refine DW_exit ?_; simp [hnt, Try.ntmps28, Try.results28, anW4528])
          | (refine DW_skip ?_; simp [hnt, Try.ntmps28, Try.results28, anW4528])
          | (intro hc; (try simp [hnt, Try.ntmps28, Try.results28, anW4528] at hc); done)
          | (intro hc; (try simp [hnt, Try.ntmps28, Try.results28, anW4528] at hc); (first | (exfalso; omega) | skip))
          | (refine ⟨?_, ?_⟩; · omega)
          | omega
          | apply_assumption -exfalso -symm
          | (exfalso; omega)))
  · by_cases hs2 : 16 ≤ s.n
    · have := hb2 (by simp [symBad, hl, hs2])
      (repeat (first
          | (refine DW_seq fun K hK => ?_)
          | (refine DW_r anW4528 Try.mixed (by kernel_rfl) ?_; simp [hnt, Try.ntmps28, Try.results28, anW4528, dSym, hlj, hs', hs1, hs2, hl, this]; try simp (disch := omega) only [wrap64_in])
          | (refine DW_block ?_)
          | (focus (refine DW_if ?_ ?_ ?_; (· (simp [hnt, Try.ntmps28, Try.results28, anW4528, dSym, hlj, hs', hs1, hs2, hl, this]; done)); (try (rotate_left; (· (intro hc; (try simp [hnt, Try.ntmps28, Try.results28, anW4528, dSym, hlj, hs', hs1, hs2, hl, this] at hc); done))))))
          | (refine DW_ret ?_; simp [hnt, Try.ntmps28, Try.results28, anW4528, dSym, hlj, hs', hs1, hs2, hl, this])
          | (refine DW_exit ?_; simp [hnt, Try.ntmps28, Try.results28, anW4528, dSym, hlj, hs', hs1, hs2, hl, this])
          | (refine DW_skip ?_; simp [hnt, Try.ntmps28, Try.results28, anW4528, dSym, hlj, hs', hs1, hs2, hl, this])
          | (intro hc; (try simp [hnt, Try.ntmps28, Try.results28, anW4528, dSym, hlj, hs', hs1, hs2, hl, this] at hc); done)
          | (intro hc; (try simp [hnt, Try.ntmps28, Try.results28, anW4528, dSym, hlj, hs', hs1, hs2, hl, this] at hc); (first | (exfalso; omega) | skip))
          | (refine ⟨?_, ?_⟩; · omega)
          | omega
          | apply_assumption -exfalso -symm
          | (exfalso; omega)))
    · have hgd := hst2 (by simp [symBad, hl, hs1, hs2])
      (repeat (first
          | (refine DW_seq fun K hK => ?_)
          | (refine DW_r anW4528 Try.mixed (by kernel_rfl) ?_; simp [hnt, Try.ntmps28, Try.results28, anW4528, dSym, hlj, hs', hs1, hs2, hl]; try simp (disch := omega) only [wrap64_in])
          | (refine DW_block ?_)
          | (focus (refine DW_if ?_ ?_ ?_; (· (simp [hnt, Try.ntmps28, Try.results28, anW4528, dSym, hlj, hs', hs1, hs2, hl]; done)); (try (rotate_left; (· (intro hc; (try simp [hnt, Try.ntmps28, Try.results28, anW4528, dSym, hlj, hs', hs1, hs2, hl] at hc); done))))))
          | (refine DW_ret ?_; simp [hnt, Try.ntmps28, Try.results28, anW4528, dSym, hlj, hs', hs1, hs2, hl])
          | (refine DW_exit ?_; simp [hnt, Try.ntmps28, Try.results28, anW4528, dSym, hlj, hs', hs1, hs2, hl])
          | (refine DW_skip ?_; simp [hnt, Try.ntmps28, Try.results28, anW4528, dSym, hlj, hs', hs1, hs2, hl])
          | (intro hc; (try simp [hnt, Try.ntmps28, Try.results28, anW4528, dSym, hlj, hs', hs1, hs2, hl] at hc); done)
          | (intro hc; (try simp [hnt, Try.ntmps28, Try.results28, anW4528, dSym, hlj, hs', hs1, hs2, hl] at hc); (first | (exfalso; omega) | skip))
          | (refine ⟨?_, ?_⟩; · omega)
          | omega
          | apply_assumption -exfalso -symm
          | (exfalso; omega)))
      refine Again.mk ⟨j + 1, by omega, hgd⟩ (Sub.lit (by simp)) (by simp; omega)
      (repeat (first
          | (refine DW_seq fun K hK => ?_)
          | (refine DW_r anW4528 Try.mixed (by kernel_rfl) ?_; simp [hnt, Try.ntmps28, Try.results28, anW4528]; try simp (disch := omega) only [wrap64_in])
          | (refine DW_block ?_)
          | (focus (refine DW_if ?_ ?_ ?_; (· (simp [hnt, Try.ntmps28, Try.results28, anW4528]; done)); (try (rotate_left; (· (intro hc; (try simp [hnt, Try.ntmps28, Try.results28, anW4528] at hc); done))))))
          | (refine DW_ret ?_; simp [hnt, Try.ntmps28, Try.results28, anW4528])
          | (refine DW_exit ?_; simp [hnt, Try.ntmps28, Try.results28, anW4528])
          | (refine DW_skip ?_; simp [hnt, Try.ntmps28, Try.results28, anW4528])
          | (intro hc; (try simp [hnt, Try.ntmps28, Try.results28, anW4528] at hc); done)
          | (intro hc; (try simp [hnt, Try.ntmps28, Try.results28, anW4528] at hc); (first | (exfalso; omega) | skip))
          | (refine ⟨?_, ?_⟩; · omega)
          | omega
          | apply_assumption -exfalso -symm
          | (exfalso; omega)))
end Go.Proofs.Ytihkcegelghcpaa
end

section
/- A part of a proof: walks over the functions that it names; their contracts hold for every argument. -/





set_option linter.unusedSimpArgs false
set_option linter.unusedVariables false
namespace Go.Proofs.Ytihkcegelghcpaa
open Go Go.Dm
attribute [local irreducible] DW callP callS
set_option maxRecDepth 100000

def anW77 : Ann := ⟨[], [⟨2, [4], [], []⟩, ⟨3, [6], [], []⟩]⟩
theorem cfgChecks_pure (c : Cnf) : DPure Try.prog 7 [.agg (dCnf c)] (.bool true) := by
  refine DPure_introF [] (fn := Try.f7) Try.func7 rfl Try.call7 (by simp [Try.ntmps7]) (by simp [mx]) ?_
  intro hwf B hnt
  simp only [argS]
  have h1 := copy_pure c
  have h2 := check_pure c
  have h3 := fsort_pure c
  have h4 := fturn_pure c
  have h5 := rcheck_pure c
  have h6 := head12_pure
  cases hb : cnfOK c
  · rw [hb] at h2 h3 h4 h5
    (repeat (first
        | (refine DW_seq fun K hK => ?_)
        | (refine DW_r anW77 Try.mixed (by kernel_rfl) ?_; simp [hnt, Try.ntmps7, Try.results7, anW77, dCnf]; try simp (disch := omega) only [wrap64_in])
        | (refine DW_block ?_)
        | (focus (refine DW_if ?_ ?_ ?_; (· (simp [hnt, Try.ntmps7, Try.results7, anW77, dCnf]; done)); (try (rotate_left; (· (intro hc; (try simp [hnt, Try.ntmps7, Try.results7, anW77, dCnf] at hc); done))))))
        | (refine DW_ret ?_; simp [hnt, Try.ntmps7, Try.results7, anW77, dCnf])
        | (refine DW_exit ?_; simp [hnt, Try.ntmps7, Try.results7, anW77, dCnf])
        | (refine DW_skip ?_; simp [hnt, Try.ntmps7, Try.results7, anW77, dCnf])
        | (intro hc; (try simp [hnt, Try.ntmps7, Try.results7, anW77, dCnf] at hc); done)
        | (intro hc; (try simp [hnt, Try.ntmps7, Try.results7, anW77, dCnf] at hc); (first | (exfalso; omega) | skip))
        | (refine callP_mk (h1) ?_; try simp [hnt, Try.ntmps7, Try.results7, anW77, dCnf])
        | (refine callP_wk (h1) ?_ ?_; (· (simp; done)); try simp [hnt, Try.ntmps7, Try.results7, anW77, dCnf])
        | (refine callP_mk (h2) ?_; try simp [hnt, Try.ntmps7, Try.results7, anW77, dCnf])
        | (refine callP_wk (h2) ?_ ?_; (· (simp; done)); try simp [hnt, Try.ntmps7, Try.results7, anW77, dCnf])
        | (refine callP_mk (h3) ?_; try simp [hnt, Try.ntmps7, Try.results7, anW77, dCnf])
        | (refine callP_wk (h3) ?_ ?_; (· (simp; done)); try simp [hnt, Try.ntmps7, Try.results7, anW77, dCnf])
        | (refine callP_mk (h4) ?_; try simp [hnt, Try.ntmps7, Try.results7, anW77, dCnf])
        | (refine callP_wk (h4) ?_ ?_; (· (simp; done)); try simp [hnt, Try.ntmps7, Try.results7, anW77, dCnf])
        | (refine callP_mk (h5) ?_; try simp [hnt, Try.ntmps7, Try.results7, anW77, dCnf])
        | (refine callP_wk (h5) ?_ ?_; (· (simp; done)); try simp [hnt, Try.ntmps7, Try.results7, anW77, dCnf])
        | (refine callP_mk (h6) ?_; try simp [hnt, Try.ntmps7, Try.results7, anW77, dCnf])
        | (refine callP_wk (h6) ?_ ?_; (· (simp; done)); try simp [hnt, Try.ntmps7, Try.results7, anW77, dCnf])
        | (refine ⟨?_, ?_⟩; · omega)
        | omega
        | apply_assumption -exfalso -symm
        | (exfalso; omega)))
  · rw [hb] at h2 h3 h4 h5
    (repeat (first
        | (refine DW_seq fun K hK => ?_)
        | (refine DW_r anW77 Try.mixed (by kernel_rfl) ?_; simp [hnt, Try.ntmps7, Try.results7, anW77, dCnf]; try simp (disch := omega) only [wrap64_in])
        | (refine DW_block ?_)
        | (focus (refine DW_if ?_ ?_ ?_; (· (simp [hnt, Try.ntmps7, Try.results7, anW77, dCnf]; done)); (try (rotate_left; (· (intro hc; (try simp [hnt, Try.ntmps7, Try.results7, anW77, dCnf] at hc); done))))))
        | (refine DW_ret ?_; simp [hnt, Try.ntmps7, Try.results7, anW77, dCnf])
        | (refine DW_exit ?_; simp [hnt, Try.ntmps7, Try.results7, anW77, dCnf])
        | (refine DW_skip ?_; simp [hnt, Try.ntmps7, Try.results7, anW77, dCnf])
        | (intro hc; (try simp [hnt, Try.ntmps7, Try.results7, anW77, dCnf] at hc); done)
        | (intro hc; (try simp [hnt, Try.ntmps7, Try.results7, anW77, dCnf] at hc); (first | (exfalso; omega) | skip))
        | (refine callP_mk (h1) ?_; try simp [hnt, Try.ntmps7, Try.results7, anW77, dCnf])
        | (refine callP_wk (h1) ?_ ?_; (· (simp; done)); try simp [hnt, Try.ntmps7, Try.results7, anW77, dCnf])
        | (refine callP_mk (h2) ?_; try simp [hnt, Try.ntmps7, Try.results7, anW77, dCnf])
        | (refine callP_wk (h2) ?_ ?_; (· (simp; done)); try simp [hnt, Try.ntmps7, Try.results7, anW77, dCnf])
        | (refine callP_mk (h3) ?_; try simp [hnt, Try.ntmps7, Try.results7, anW77, dCnf])
        | (refine callP_wk (h3) ?_ ?_; (· (simp; done)); try simp [hnt, Try.ntmps7, Try.results7, anW77, dCnf])
        | (refine callP_mk (h4) ?_; try simp [hnt, Try.ntmps7, Try.results7, anW77, dCnf])
        | (refine callP_wk (h4) ?_ ?_; (· (simp; done)); try simp [hnt, Try.ntmps7, Try.results7, anW77, dCnf])
        | (refine callP_mk (h5) ?_; try simp [hnt, Try.ntmps7, Try.results7, anW77, dCnf])
        | (refine callP_wk (h5) ?_ ?_; (· (simp; done)); try simp [hnt, Try.ntmps7, Try.results7, anW77, dCnf])
        | (refine callP_mk (h6) ?_; try simp [hnt, Try.ntmps7, Try.results7, anW77, dCnf])
        | (refine callP_wk (h6) ?_ ?_; (· (simp; done)); try simp [hnt, Try.ntmps7, Try.results7, anW77, dCnf])
        | (refine ⟨?_, ?_⟩; · omega)
        | omega
        | apply_assumption -exfalso -symm
        | (exfalso; omega)))

theorem DPure.wkT {P : Program} {f : FuncId} {args ds es : List DVal} (h : DPure P f args (.tup ds)) (hw : wkA ds es) (hd : mx (.tup es) = 0) : DPure P f args (.tup es) := by
  refine ⟨h.1, hd, fun cur M w vs hM hr => (h.2.2 cur M w vs hM hr).mono fun e w' ⟨v, h1, h2, h3⟩ => ⟨v, h1, h2, ?_⟩⟩
  simp only [rd] at h3 ⊢
  obtain ⟨us, rfl, h4⟩ := h3
  exact ⟨us, rfl, rd_wkA hw h4⟩
def cnf0 : Cnf := ⟨0, []⟩
theorem fsort_pure' (c : Cnf) : DPure Try.prog 26 [.agg (dCnf c)] (.tup [.agg (dCnf (if cnfOK c then normC c else cnf0)), .int .i64 (if cnfOK c then 0 else 220)]) := by
  have h := fsort_pure c
  cases hb : cnfOK c <;> rw [hb] at h
  · exact DPure.wkT h (by simp [cnf0, dCnf, dProds]) (by simp [mx])
  · exact h
theorem fturn_pure' (c : Cnf) : DPure Try.prog 27 [.agg (dCnf c)] (.tup [.agg (dCnf (if cnfOK c then turnC c else cnf0)), .int .i64 (if cnfOK c then 0 else 220)]) := by
  have h := fturn_pure c
  cases hb : cnfOK c <;> rw [hb] at h
  · exact DPure.wkT h (by simp [cnf0, dCnf, dProds]) (by simp [mx])
  · exact h
end Go.Proofs.Ytihkcegelghcpaa
end

section
/- A part of a proof: walks over the functions that it names; their contracts hold for every argument. -/

set_option linter.unusedSimpArgs false
set_option linter.unusedVariables false
namespace Go.Proofs.Ytihkcegelghcpaa
open Go Go.Dm
attribute [local irreducible] DW callP callS

theorem take_eq_succ {α : Type} {a b : List α} {k : Nat} {x : α} (h : a.take k = b.take k) (ha : a[k]? = some x) (hb : b[k]? = some x) : a.take (k + 1) = b.take (k + 1) := by
  rw [List.take_add_one, List.take_add_one, h, ha, hb]
def anW1818 : Ann := ⟨[], []⟩
set_option maxRecDepth 100000 in
theorem sameBody_pure (a b : List Sym) : DPure Try.prog 18 [dSyms a, dSyms b] (.bool (decide (a = b))) := by
  refine DPure_introF [] (fn := Try.f18) Try.func18 rfl Try.call18 (by simp [Try.ntmps18]) (by simp [mx]) ?_
  intro hwf B hnt
  simp only [argS]
  simp at hwf
  by_cases hl : a.length = b.length
  · (repeat (first
      | (refine DW_seq fun K hK => ?_)
      | (refine DW_r anW1818 Try.mixed (by kernel_rfl) ?_; simp [hnt, Try.ntmps18, Try.results18, anW1818, dSym, hl]; try simp (disch := omega) only [wrap64_in])
      | (refine DW_block ?_)
      | (focus (refine DW_if ?_ ?_ ?_; (· (simp [hnt, Try.ntmps18, Try.results18, anW1818, dSym, hl]; done)); (try (rotate_left; (· (intro hc; (try simp [hnt, Try.ntmps18, Try.results18, anW1818, dSym, hl] at hc); done))))))
      | (refine DW_ret ?_; simp [hnt, Try.ntmps18, Try.results18, anW1818, dSym, hl])
      | (refine DW_exit ?_; simp [hnt, Try.ntmps18, Try.results18, anW1818, dSym, hl])
      | (refine DW_skip ?_; simp [hnt, Try.ntmps18, Try.results18, anW1818, dSym, hl])
      | (intro hc; (try simp [hnt, Try.ntmps18, Try.results18, anW1818, dSym, hl] at hc); done)
      | (intro hc; (try simp [hnt, Try.ntmps18, Try.results18, anW1818, dSym, hl] at hc); (first | (exfalso; omega) | skip))
      | (refine ⟨?_, ?_⟩; · omega)
      | omega
      | apply_assumption -exfalso -symm
      | (exfalso; omega)))
    refine DW_loop (X := {k : Nat // k ≤ b.length ∧ a.take k = b.take k}) (fun x => ⟨[(0, dSyms a), (1, dSyms b), (5, .int .i64 x.1)], []⟩) (fun x => b.length - x.1) ⟨0, by simp⟩ (Sub.lit (by simp)) ?_
    rintro ⟨k, hk, he⟩
    have hw := hwf.2.2.1
    unfold maxLen at hw
    clear hwf
    by_cases hlt : k < b.length
    · obtain ⟨y, hy, hy'⟩ := at_lt hlt
      obtain ⟨x, hx, hx'⟩ := at_lt (l := a) (k := k) (by omega)
      by_cases h1 : x.label = y.label
      · by_cases h2 : x.n = y.n
        · have hnx := take_eq_succ he hx (by rw [hy]; cases x; cases y; simp_all)
          clear hx hy
          (repeat (first
              | (refine DW_seq fun K hK => ?_)
              | (refine DW_r anW1818 Try.mixed (by kernel_rfl) ?_; simp [hnt, Try.ntmps18, Try.results18, anW1818, dSym, hl, hx', hy', hlt, h1, h2]; try simp (disch := omega) only [wrap64_in])
              | (refine DW_block ?_)
              | (focus (refine DW_if ?_ ?_ ?_; (· (simp [hnt, Try.ntmps18, Try.results18, anW1818, dSym, hl, hx', hy', hlt, h1, h2]; done)); (try (rotate_left; (· (intro hc; (try simp [hnt, Try.ntmps18, Try.results18, anW1818, dSym, hl, hx', hy', hlt, h1, h2] at hc); done))))))
              | (refine DW_ret ?_; simp [hnt, Try.ntmps18, Try.results18, anW1818, dSym, hl, hx', hy', hlt, h1, h2])
              | (refine DW_exit ?_; simp [hnt, Try.ntmps18, Try.results18, anW1818, dSym, hl, hx', hy', hlt, h1, h2])
              | (refine DW_skip ?_; simp [hnt, Try.ntmps18, Try.results18, anW1818, dSym, hl, hx', hy', hlt, h1, h2])
              | (intro hc; (try simp [hnt, Try.ntmps18, Try.results18, anW1818, dSym, hl, hx', hy', hlt, h1, h2] at hc); done)
              | (intro hc; (try simp [hnt, Try.ntmps18, Try.results18, anW1818, dSym, hl, hx', hy', hlt, h1, h2] at hc); (first | (exfalso; omega) | skip))
              | (refine ⟨?_, ?_⟩; · omega)
              | omega
              | apply_assumption -exfalso -symm
              | (exfalso; omega)))
          refine Again.mk ⟨k + 1, by omega, hnx⟩ (Sub.lit (by simp [])) (by simp; omega)
          (repeat (first
              | (refine DW_seq fun K hK => ?_)
              | (refine DW_r anW1818 Try.mixed (by kernel_rfl) ?_; simp [hnt, Try.ntmps18, Try.results18, anW1818, dSym, hl, hx', hy', hlt, h1, h2]; try simp (disch := omega) only [wrap64_in])
              | (refine DW_block ?_)
              | (focus (refine DW_if ?_ ?_ ?_; (· (simp [hnt, Try.ntmps18, Try.results18, anW1818, dSym, hl, hx', hy', hlt, h1, h2]; done)); (try (rotate_left; (· (intro hc; (try simp [hnt, Try.ntmps18, Try.results18, anW1818, dSym, hl, hx', hy', hlt, h1, h2] at hc); done))))))
              | (refine DW_ret ?_; simp [hnt, Try.ntmps18, Try.results18, anW1818, dSym, hl, hx', hy', hlt, h1, h2])
              | (refine DW_exit ?_; simp [hnt, Try.ntmps18, Try.results18, anW1818, dSym, hl, hx', hy', hlt, h1, h2])
              | (refine DW_skip ?_; simp [hnt, Try.ntmps18, Try.results18, anW1818, dSym, hl, hx', hy', hlt, h1, h2])
              | (intro hc; (try simp [hnt, Try.ntmps18, Try.results18, anW1818, dSym, hl, hx', hy', hlt, h1, h2] at hc); done)
              | (intro hc; (try simp [hnt, Try.ntmps18, Try.results18, anW1818, dSym, hl, hx', hy', hlt, h1, h2] at hc); (first | (exfalso; omega) | skip))
              | (refine ⟨?_, ?_⟩; · omega)
              | omega
              | apply_assumption -exfalso -symm
              | (exfalso; omega)))
        · have hne : a ≠ b := fun h => by subst h; rw [hx] at hy; simp_all
          clear hx hy
          (repeat (first
              | (refine DW_seq fun K hK => ?_)
              | (refine DW_r anW1818 Try.mixed (by kernel_rfl) ?_; simp [hnt, Try.ntmps18, Try.results18, anW1818, dSym, hl, hx', hy', hlt, hne, h1, h2]; try simp (disch := omega) only [wrap64_in])
              | (refine DW_block ?_)
              | (focus (refine DW_if ?_ ?_ ?_; (· (simp [hnt, Try.ntmps18, Try.results18, anW1818, dSym, hl, hx', hy', hlt, hne, h1, h2]; done)); (try (rotate_left; (· (intro hc; (try simp [hnt, Try.ntmps18, Try.results18, anW1818, dSym, hl, hx', hy', hlt, hne, h1, h2] at hc); done))))))
              | (refine DW_ret ?_; simp [hnt, Try.ntmps18, Try.results18, anW1818, dSym, hl, hx', hy', hlt, hne, h1, h2])
              | (refine DW_exit ?_; simp [hnt, Try.ntmps18, Try.results18, anW1818, dSym, hl, hx', hy', hlt, hne, h1, h2])
              | (refine DW_skip ?_; simp [hnt, Try.ntmps18, Try.results18, anW1818, dSym, hl, hx', hy', hlt, hne, h1, h2])
              | (intro hc; (try simp [hnt, Try.ntmps18, Try.results18, anW1818, dSym, hl, hx', hy', hlt, hne, h1, h2] at hc); done)
              | (intro hc; (try simp [hnt, Try.ntmps18, Try.results18, anW1818, dSym, hl, hx', hy', hlt, hne, h1, h2] at hc); (first | (exfalso; omega) | skip))
              | (refine ⟨?_, ?_⟩; · omega)
              | omega
              | apply_assumption -exfalso -symm
              | (exfalso; omega)))
      · have hne : a ≠ b := fun h => by subst h; rw [hx] at hy; simp_all
        clear hx hy
        (repeat (first
            | (refine DW_seq fun K hK => ?_)
            | (refine DW_r anW1818 Try.mixed (by kernel_rfl) ?_; simp [hnt, Try.ntmps18, Try.results18, anW1818, dSym, hl, hx', hy', hlt, hne, h1]; try simp (disch := omega) only [wrap64_in])
            | (refine DW_block ?_)
            | (focus (refine DW_if ?_ ?_ ?_; (· (simp [hnt, Try.ntmps18, Try.results18, anW1818, dSym, hl, hx', hy', hlt, hne, h1]; done)); (try (rotate_left; (· (intro hc; (try simp [hnt, Try.ntmps18, Try.results18, anW1818, dSym, hl, hx', hy', hlt, hne, h1] at hc); done))))))
            | (refine DW_ret ?_; simp [hnt, Try.ntmps18, Try.results18, anW1818, dSym, hl, hx', hy', hlt, hne, h1])
            | (refine DW_exit ?_; simp [hnt, Try.ntmps18, Try.results18, anW1818, dSym, hl, hx', hy', hlt, hne, h1])
            | (refine DW_skip ?_; simp [hnt, Try.ntmps18, Try.results18, anW1818, dSym, hl, hx', hy', hlt, hne, h1])
            | (intro hc; (try simp [hnt, Try.ntmps18, Try.results18, anW1818, dSym, hl, hx', hy', hlt, hne, h1] at hc); done)
            | (intro hc; (try simp [hnt, Try.ntmps18, Try.results18, anW1818, dSym, hl, hx', hy', hlt, hne, h1] at hc); (first | (exfalso; omega) | skip))
            | (refine ⟨?_, ?_⟩; · omega)
            | omega
            | apply_assumption -exfalso -symm
            | (exfalso; omega)))
    · have : k = b.length := by omega
      subst this
      have hab : a = b := by rw [List.take_of_length_le (by omega), List.take_of_length_le (by omega)] at he; exact he
      (repeat (first
          | (refine DW_seq fun K hK => ?_)
          | (refine DW_r anW1818 Try.mixed (by kernel_rfl) ?_; simp [hnt, Try.ntmps18, Try.results18, anW1818, dSym, hab]; try simp (disch := omega) only [wrap64_in])
          | (refine DW_block ?_)
          | (focus (refine DW_if ?_ ?_ ?_; (· (simp [hnt, Try.ntmps18, Try.results18, anW1818, dSym, hab]; done)); (try (rotate_left; (· (intro hc; (try simp [hnt, Try.ntmps18, Try.results18, anW1818, dSym, hab] at hc); done))))))
          | (refine DW_ret ?_; simp [hnt, Try.ntmps18, Try.results18, anW1818, dSym, hab])
          | (refine DW_exit ?_; simp [hnt, Try.ntmps18, Try.results18, anW1818, dSym, hab])
          | (refine DW_skip ?_; simp [hnt, Try.ntmps18, Try.results18, anW1818, dSym, hab])
          | (intro hc; (try simp [hnt, Try.ntmps18, Try.results18, anW1818, dSym, hab] at hc); done)
          | (intro hc; (try simp [hnt, Try.ntmps18, Try.results18, anW1818, dSym, hab] at hc); (first | (exfalso; omega) | skip))
          | (refine ⟨?_, ?_⟩; · omega)
          | omega
          | apply_assumption -exfalso -symm
          | (exfalso; omega)))
  · have hne : a ≠ b := fun h => hl (by rw [h])
    have hl' : ¬ (b.length : Int) = a.length := by omega
    (repeat (first
        | (refine DW_seq fun K hK => ?_)
        | (refine DW_r anW1818 Try.mixed (by kernel_rfl) ?_; simp [hnt, Try.ntmps18, Try.results18, anW1818, dSym, hl, hl', hne]; try simp (disch := omega) only [wrap64_in])
        | (refine DW_block ?_)
        | (focus (refine DW_if ?_ ?_ ?_; (· (simp [hnt, Try.ntmps18, Try.results18, anW1818, dSym, hl, hl', hne]; done)); (try (rotate_left; (· (intro hc; (try simp [hnt, Try.ntmps18, Try.results18, anW1818, dSym, hl, hl', hne] at hc); done))))))
        | (refine DW_ret ?_; simp [hnt, Try.ntmps18, Try.results18, anW1818, dSym, hl, hl', hne])
        | (refine DW_exit ?_; simp [hnt, Try.ntmps18, Try.results18, anW1818, dSym, hl, hl', hne])
        | (refine DW_skip ?_; simp [hnt, Try.ntmps18, Try.results18, anW1818, dSym, hl, hl', hne])
        | (intro hc; (try simp [hnt, Try.ntmps18, Try.results18, anW1818, dSym, hl, hl', hne] at hc); done)
        | (intro hc; (try simp [hnt, Try.ntmps18, Try.results18, anW1818, dSym, hl, hl', hne] at hc); (first | (exfalso; omega) | skip))
        | (refine ⟨?_, ?_⟩; · omega)
        | omega
        | apply_assumption -exfalso -symm
        | (exfalso; omega)))
end Go.Proofs.Ytihkcegelghcpaa
end

section
/- A part of a proof: walks over the functions that it names; their contracts hold for every argument. -/

set_option linter.unusedSimpArgs false
set_option linter.unusedVariables false
namespace Go.Proofs.Ytihkcegelghcpaa
open Go Go.Dm
attribute [local irreducible] DW callP callS
set_option maxRecDepth 100000


def anW2323 : Ann := ⟨[], []⟩
set_option maxHeartbeats 4000000 in
theorem same23_pure (a b : Cnf) : DPure Try.prog 23 [.agg (dCnf a), .agg (dCnf b)] (.bool (decide (a = b))) := by
  refine DPure_introF [] (fn := Try.f23) Try.func23 rfl Try.call23 (by simp [Try.ntmps23]) (by simp [mx]) ?_
  intro hwf B hnt
  have hw : wCnf b := w_cnf (by simpa [wfL, wfD] using hwf.2.1)
  obtain ⟨hw1, hw2, hw3, hw4⟩ := hw
  clear hwf
  simp only [argS]
  by_cases h0 : a.nts = b.nts
  rotate_left
  · have hne : a ≠ b := fun h => h0 (by rw [h])
    (repeat (first
        | (refine DW_seq fun K hK => ?_)
        | (refine DW_r anW2323 Try.mixed (by kernel_rfl) ?_; simp [hnt, Try.ntmps23, Try.results23, anW2323, dCnf, h0, hne]; try simp (disch := omega) only [wrap64_in])
        | (refine DW_block ?_)
        | (focus (refine DW_if ?_ ?_ ?_; (· (simp [hnt, Try.ntmps23, Try.results23, anW2323, dCnf, h0, hne]; done)); (try (rotate_left; (· (intro hc; (try simp [hnt, Try.ntmps23, Try.results23, anW2323, dCnf, h0, hne] at hc); done))))))
        | (refine DW_ret ?_; simp [hnt, Try.ntmps23, Try.results23, anW2323, dCnf, h0, hne])
        | (refine DW_exit ?_; simp [hnt, Try.ntmps23, Try.results23, anW2323, dCnf, h0, hne])
        | (refine DW_skip ?_; simp [hnt, Try.ntmps23, Try.results23, anW2323, dCnf, h0, hne])
        | (intro hc; (try simp [hnt, Try.ntmps23, Try.results23, anW2323, dCnf, h0, hne] at hc); done)
        | (intro hc; (try simp [hnt, Try.ntmps23, Try.results23, anW2323, dCnf, h0, hne] at hc); (first | (exfalso; omega) | skip))
        | (refine ⟨?_, ?_⟩; · omega)
        | omega
        | apply_assumption -exfalso -symm
        | (exfalso; omega)))
  by_cases hl : a.prods.length = b.prods.length
  rotate_left
  · have hne : a ≠ b := fun h => hl (by rw [h])
    have hl' : ¬ (b.prods.length : Int) = a.prods.length := by omega
    (repeat (first
        | (refine DW_seq fun K hK => ?_)
        | (refine DW_r anW2323 Try.mixed (by kernel_rfl) ?_; simp [hnt, Try.ntmps23, Try.results23, anW2323, dCnf, h0, hl, hl', hne]; try simp (disch := omega) only [wrap64_in])
        | (refine DW_block ?_)
        | (focus (refine DW_if ?_ ?_ ?_; (· (simp [hnt, Try.ntmps23, Try.results23, anW2323, dCnf, h0, hl, hl', hne]; done)); (try (rotate_left; (· (intro hc; (try simp [hnt, Try.ntmps23, Try.results23, anW2323, dCnf, h0, hl, hl', hne] at hc); done))))))
        | (refine DW_ret ?_; simp [hnt, Try.ntmps23, Try.results23, anW2323, dCnf, h0, hl, hl', hne])
        | (refine DW_exit ?_; simp [hnt, Try.ntmps23, Try.results23, anW2323, dCnf, h0, hl, hl', hne])
        | (refine DW_skip ?_; simp [hnt, Try.ntmps23, Try.results23, anW2323, dCnf, h0, hl, hl', hne])
        | (intro hc; (try simp [hnt, Try.ntmps23, Try.results23, anW2323, dCnf, h0, hl, hl', hne] at hc); done)
        | (intro hc; (try simp [hnt, Try.ntmps23, Try.results23, anW2323, dCnf, h0, hl, hl', hne] at hc); (first | (exfalso; omega) | skip))
        | (refine ⟨?_, ?_⟩; · omega)
        | omega
        | apply_assumption -exfalso -symm
        | (exfalso; omega)))
  (repeat (first
      | (refine DW_seq fun K hK => ?_)
      | (refine DW_r anW2323 Try.mixed (by kernel_rfl) ?_; simp [hnt, Try.ntmps23, Try.results23, anW2323, dCnf, h0, hl]; try simp (disch := omega) only [wrap64_in])
      | (refine DW_block ?_)
      | (focus (refine DW_if ?_ ?_ ?_; (· (simp [hnt, Try.ntmps23, Try.results23, anW2323, dCnf, h0, hl]; done)); (try (rotate_left; (· (intro hc; (try simp [hnt, Try.ntmps23, Try.results23, anW2323, dCnf, h0, hl] at hc); done))))))
      | (refine DW_ret ?_; simp [hnt, Try.ntmps23, Try.results23, anW2323, dCnf, h0, hl])
      | (refine DW_exit ?_; simp [hnt, Try.ntmps23, Try.results23, anW2323, dCnf, h0, hl])
      | (refine DW_skip ?_; simp [hnt, Try.ntmps23, Try.results23, anW2323, dCnf, h0, hl])
      | (intro hc; (try simp [hnt, Try.ntmps23, Try.results23, anW2323, dCnf, h0, hl] at hc); done)
      | (intro hc; (try simp [hnt, Try.ntmps23, Try.results23, anW2323, dCnf, h0, hl] at hc); (first | (exfalso; omega) | skip))
      | (refine ⟨?_, ?_⟩; · omega)
      | omega
      | apply_assumption -exfalso -symm
      | (exfalso; omega)))
  refine DW_loop (X := {k : Nat // k ≤ b.prods.length ∧ a.prods.take k = b.prods.take k}) (fun x => ⟨[(2, .ref (dCnf a)), (3, .ref (dCnf b)), (5, .int .i64 x.1)], []⟩) (fun x => b.prods.length - x.1) ⟨0, by simp⟩ (Sub.lit (by simp [dCnf, h0])) ?_
  rintro ⟨k, hk, he⟩
  by_cases hlt : k < b.prods.length
  · obtain ⟨q, hq, hq', hqm⟩ := at_lt' hlt
    obtain ⟨p, hp, hp', hpm⟩ := at_lt' (l := a.prods) (k := k) (by omega)
    have hv := sameBody_pure p.body q.body
    by_cases h1 : p.head = q.head
    · have hb : (p.head != q.head) = false := by simp [h1]
      by_cases h2 : p.body = q.body
      · rw [h2] at hv
        have hnx := take_eq_succ he hp (by rw [hq]; cases p; cases q; simp_all)
        clear hp hq
        (repeat (first
            | (refine DW_seq fun K hK => ?_)
            | (refine DW_r anW2323 Try.mixed (by kernel_rfl) ?_; simp [hnt, Try.ntmps23, Try.results23, anW2323, dCnf, dProd, hl, hp', hq', hlt, h1, h2, hb]; try simp (disch := omega) only [wrap64_in])
            | (refine DW_block ?_)
            | (focus (refine DW_if ?_ ?_ ?_; (· (simp [hnt, Try.ntmps23, Try.results23, anW2323, dCnf, dProd, hl, hp', hq', hlt, h1, h2, hb]; done)); (try (rotate_left; (· (intro hc; (try simp [hnt, Try.ntmps23, Try.results23, anW2323, dCnf, dProd, hl, hp', hq', hlt, h1, h2, hb] at hc); done))))))
            | (refine DW_ret ?_; simp [hnt, Try.ntmps23, Try.results23, anW2323, dCnf, dProd, hl, hp', hq', hlt, h1, h2, hb])
            | (refine DW_exit ?_; simp [hnt, Try.ntmps23, Try.results23, anW2323, dCnf, dProd, hl, hp', hq', hlt, h1, h2, hb])
            | (refine DW_skip ?_; simp [hnt, Try.ntmps23, Try.results23, anW2323, dCnf, dProd, hl, hp', hq', hlt, h1, h2, hb])
            | (intro hc; (try simp [hnt, Try.ntmps23, Try.results23, anW2323, dCnf, dProd, hl, hp', hq', hlt, h1, h2, hb] at hc); done)
            | (intro hc; (try simp [hnt, Try.ntmps23, Try.results23, anW2323, dCnf, dProd, hl, hp', hq', hlt, h1, h2, hb] at hc); (first | (exfalso; omega) | skip))
            | (refine callP_mk (hv) ?_; try simp [hnt, Try.ntmps23, Try.results23, anW2323, dCnf, dProd, hl, hp', hq', hlt, h1, h2, hb])
            | (refine callP_wk (hv) ?_ ?_; (· (simp; done)); try simp [hnt, Try.ntmps23, Try.results23, anW2323, dCnf, dProd, hl, hp', hq', hlt, h1, h2, hb])
            | (refine ⟨?_, ?_⟩; · omega)
            | omega
            | apply_assumption -exfalso -symm
            | (exfalso; omega)))
        refine Again.mk ⟨k + 1, by omega, hnx⟩ (Sub.lit (by simp [])) (by simp; omega)
        (repeat (first
            | (refine DW_seq fun K hK => ?_)
            | (refine DW_r anW2323 Try.mixed (by kernel_rfl) ?_; simp [hnt, Try.ntmps23, Try.results23, anW2323, dCnf, dProd, hl, hp', hq', hlt, h1, h2, hb]; try simp (disch := omega) only [wrap64_in])
            | (refine DW_block ?_)
            | (focus (refine DW_if ?_ ?_ ?_; (· (simp [hnt, Try.ntmps23, Try.results23, anW2323, dCnf, dProd, hl, hp', hq', hlt, h1, h2, hb]; done)); (try (rotate_left; (· (intro hc; (try simp [hnt, Try.ntmps23, Try.results23, anW2323, dCnf, dProd, hl, hp', hq', hlt, h1, h2, hb] at hc); done))))))
            | (refine DW_ret ?_; simp [hnt, Try.ntmps23, Try.results23, anW2323, dCnf, dProd, hl, hp', hq', hlt, h1, h2, hb])
            | (refine DW_exit ?_; simp [hnt, Try.ntmps23, Try.results23, anW2323, dCnf, dProd, hl, hp', hq', hlt, h1, h2, hb])
            | (refine DW_skip ?_; simp [hnt, Try.ntmps23, Try.results23, anW2323, dCnf, dProd, hl, hp', hq', hlt, h1, h2, hb])
            | (intro hc; (try simp [hnt, Try.ntmps23, Try.results23, anW2323, dCnf, dProd, hl, hp', hq', hlt, h1, h2, hb] at hc); done)
            | (intro hc; (try simp [hnt, Try.ntmps23, Try.results23, anW2323, dCnf, dProd, hl, hp', hq', hlt, h1, h2, hb] at hc); (first | (exfalso; omega) | skip))
            | (refine callP_mk (hv) ?_; try simp [hnt, Try.ntmps23, Try.results23, anW2323, dCnf, dProd, hl, hp', hq', hlt, h1, h2, hb])
            | (refine callP_wk (hv) ?_ ?_; (· (simp; done)); try simp [hnt, Try.ntmps23, Try.results23, anW2323, dCnf, dProd, hl, hp', hq', hlt, h1, h2, hb])
            | (refine ⟨?_, ?_⟩; · omega)
            | omega
            | apply_assumption -exfalso -symm
            | (exfalso; omega)))
      · have hne : a ≠ b := fun h => by subst h; rw [hp] at hq; simp_all
        clear hp hq
        (repeat (first
            | (refine DW_seq fun K hK => ?_)
            | (refine DW_r anW2323 Try.mixed (by kernel_rfl) ?_; simp [hnt, Try.ntmps23, Try.results23, anW2323, dCnf, dProd, hl, hp', hq', hlt, h1, h2, hb, hne]; try simp (disch := omega) only [wrap64_in])
            | (refine DW_block ?_)
            | (focus (refine DW_if ?_ ?_ ?_; (· (simp [hnt, Try.ntmps23, Try.results23, anW2323, dCnf, dProd, hl, hp', hq', hlt, h1, h2, hb, hne]; done)); (try (rotate_left; (· (intro hc; (try simp [hnt, Try.ntmps23, Try.results23, anW2323, dCnf, dProd, hl, hp', hq', hlt, h1, h2, hb, hne] at hc); done))))))
            | (refine DW_ret ?_; simp [hnt, Try.ntmps23, Try.results23, anW2323, dCnf, dProd, hl, hp', hq', hlt, h1, h2, hb, hne])
            | (refine DW_exit ?_; simp [hnt, Try.ntmps23, Try.results23, anW2323, dCnf, dProd, hl, hp', hq', hlt, h1, h2, hb, hne])
            | (refine DW_skip ?_; simp [hnt, Try.ntmps23, Try.results23, anW2323, dCnf, dProd, hl, hp', hq', hlt, h1, h2, hb, hne])
            | (intro hc; (try simp [hnt, Try.ntmps23, Try.results23, anW2323, dCnf, dProd, hl, hp', hq', hlt, h1, h2, hb, hne] at hc); done)
            | (intro hc; (try simp [hnt, Try.ntmps23, Try.results23, anW2323, dCnf, dProd, hl, hp', hq', hlt, h1, h2, hb, hne] at hc); (first | (exfalso; omega) | skip))
            | (refine callP_mk (hv) ?_; try simp [hnt, Try.ntmps23, Try.results23, anW2323, dCnf, dProd, hl, hp', hq', hlt, h1, h2, hb, hne])
            | (refine callP_wk (hv) ?_ ?_; (· (simp; done)); try simp [hnt, Try.ntmps23, Try.results23, anW2323, dCnf, dProd, hl, hp', hq', hlt, h1, h2, hb, hne])
            | (refine ⟨?_, ?_⟩; · omega)
            | omega
            | apply_assumption -exfalso -symm
            | (exfalso; omega)))
    · have hb : (p.head != q.head) = true := by simp [h1]
      have hne : a ≠ b := fun h => by subst h; rw [hp] at hq; simp_all
      clear hp hq
      (repeat (first
          | (refine DW_seq fun K hK => ?_)
          | (refine DW_r anW2323 Try.mixed (by kernel_rfl) ?_; simp [hnt, Try.ntmps23, Try.results23, anW2323, dCnf, dProd, hl, hp', hq', hlt, h1, hb, hne]; try simp (disch := omega) only [wrap64_in])
          | (refine DW_block ?_)
          | (focus (refine DW_if ?_ ?_ ?_; (· (simp [hnt, Try.ntmps23, Try.results23, anW2323, dCnf, dProd, hl, hp', hq', hlt, h1, hb, hne]; done)); (try (rotate_left; (· (intro hc; (try simp [hnt, Try.ntmps23, Try.results23, anW2323, dCnf, dProd, hl, hp', hq', hlt, h1, hb, hne] at hc); done))))))
          | (refine DW_ret ?_; simp [hnt, Try.ntmps23, Try.results23, anW2323, dCnf, dProd, hl, hp', hq', hlt, h1, hb, hne])
          | (refine DW_exit ?_; simp [hnt, Try.ntmps23, Try.results23, anW2323, dCnf, dProd, hl, hp', hq', hlt, h1, hb, hne])
          | (refine DW_skip ?_; simp [hnt, Try.ntmps23, Try.results23, anW2323, dCnf, dProd, hl, hp', hq', hlt, h1, hb, hne])
          | (intro hc; (try simp [hnt, Try.ntmps23, Try.results23, anW2323, dCnf, dProd, hl, hp', hq', hlt, h1, hb, hne] at hc); done)
          | (intro hc; (try simp [hnt, Try.ntmps23, Try.results23, anW2323, dCnf, dProd, hl, hp', hq', hlt, h1, hb, hne] at hc); (first | (exfalso; omega) | skip))
          | (refine callP_mk (hv) ?_; try simp [hnt, Try.ntmps23, Try.results23, anW2323, dCnf, dProd, hl, hp', hq', hlt, h1, hb, hne])
          | (refine callP_wk (hv) ?_ ?_; (· (simp; done)); try simp [hnt, Try.ntmps23, Try.results23, anW2323, dCnf, dProd, hl, hp', hq', hlt, h1, hb, hne])
          | (refine ⟨?_, ?_⟩; · omega)
          | omega
          | apply_assumption -exfalso -symm
          | (exfalso; omega)))
  · have : k = b.prods.length := by omega
    subst this
    have hab : a = b := by
      rw [List.take_of_length_le (by omega), List.take_of_length_le (by omega)] at he
      cases a; cases b; simp_all
    (repeat (first
        | (refine DW_seq fun K hK => ?_)
        | (refine DW_r anW2323 Try.mixed (by kernel_rfl) ?_; simp [hnt, Try.ntmps23, Try.results23, anW2323, dCnf, hab]; try simp (disch := omega) only [wrap64_in])
        | (refine DW_block ?_)
        | (focus (refine DW_if ?_ ?_ ?_; (· (simp [hnt, Try.ntmps23, Try.results23, anW2323, dCnf, hab]; done)); (try (rotate_left; (· (intro hc; (try simp [hnt, Try.ntmps23, Try.results23, anW2323, dCnf, hab] at hc); done))))))
        | (refine DW_ret ?_; simp [hnt, Try.ntmps23, Try.results23, anW2323, dCnf, hab])
        | (refine DW_exit ?_; simp [hnt, Try.ntmps23, Try.results23, anW2323, dCnf, hab])
        | (refine DW_skip ?_; simp [hnt, Try.ntmps23, Try.results23, anW2323, dCnf, hab])
        | (intro hc; (try simp [hnt, Try.ntmps23, Try.results23, anW2323, dCnf, hab] at hc); done)
        | (intro hc; (try simp [hnt, Try.ntmps23, Try.results23, anW2323, dCnf, hab] at hc); (first | (exfalso; omega) | skip))
        | (refine callP_mk (hv) ?_; try simp [hnt, Try.ntmps23, Try.results23, anW2323, dCnf, hab])
        | (refine callP_wk (hv) ?_ ?_; (· (simp; done)); try simp [hnt, Try.ntmps23, Try.results23, anW2323, dCnf, hab])
        | (refine ⟨?_, ?_⟩; · omega)
        | omega
        | apply_assumption -exfalso -symm
        | (exfalso; omega)))
end Go.Proofs.Ytihkcegelghcpaa
end

section
/- Sorted once: insertion tells the same as sorting and leaving out what is twice. Plain Lean. -/


set_option linter.unusedSimpArgs false
set_option linter.unusedVariables false
namespace Go.Proofs.Ytihkcegelghcpaa
open Go Go.Dm

def insC {α : Type} (c : α → α → Int) : List α → α → List α
  | [], p => [p]
  | x :: l, p => if c x p < 0 then x :: insC c l p else if c p x < 0 then p :: x :: l else x :: l
theorem insC_ne {α : Type} {c : α → α → Int} (l : List α) (p : α) : insC c l p ≠ [] := by
  cases l with
  | nil => simp [insC]
  | cons x l => simp only [insC]; split <;> (try split) <;> simp
theorem mem_insC {α : Type} {c : α → α → Int} (h : OrdC c) {p z : α} : ∀ {l : List α}, z ∈ insC c l p ↔ z = p ∨ z ∈ l
  | [] => by simp [insC]
  | x :: l => by
    have ih := mem_insC h (p := p) (z := z) (l := l)
    simp only [insC]
    split
    · rw [List.mem_cons, ih, List.mem_cons]
      exact ⟨fun hh => by rcases hh with a | a | a <;> simp [a], fun hh => by rcases hh with a | a | a <;> simp [a]⟩
    · rename_i h1
      split
      · simp only [List.mem_cons]
      · rename_i h2
        have := h.le_anti h1 h2
        subst this
        simp only [List.mem_cons]
        exact ⟨.inr, fun hh => by
          rcases hh with a | a
          · exact .inl a
          · exact a⟩
def strictC {α : Type} (c : α → α → Int) (l : List α) : Prop := l.Pairwise (fun x y => c x y < 0)
theorem insC_strict {α : Type} {c : α → α → Int} (h : OrdC c) {p : α} : ∀ {l : List α}, strictC c l → strictC c (insC c l p)
  | [], _ => by simp [insC, strictC]
  | x :: l, hs => by
    obtain ⟨h1, h2⟩ := List.pairwise_cons.1 hs
    simp only [insC]
    split
    · rename_i hx
      refine List.pairwise_cons.2 ⟨fun z hz => ?_, insC_strict h h2⟩
      rcases (mem_insC h).1 hz with rfl | hz
      · exact hx
      · exact h1 z hz
    · split
      · rename_i hx
        refine List.pairwise_cons.2 ⟨fun z hz => ?_, hs⟩
        rcases List.mem_cons.1 hz with rfl | hz
        · exact hx
        · exact h.trans _ _ _ hx (h1 z hz)
      · exact hs
theorem fold_strict {α : Type} {c : α → α → Int} (h : OrdC c) : ∀ (l a : List α), strictC c a → strictC c (l.foldl (insC c) a) ∧ ∀ z, z ∈ l.foldl (insC c) a ↔ z ∈ l ∨ z ∈ a
  | [], a, ha => ⟨ha, by simp⟩
  | x :: l, a, ha => by
    obtain ⟨h1, h2⟩ := fold_strict h l (insC c a x) (insC_strict h ha)
    refine ⟨h1, fun z => ?_⟩
    rw [List.foldl_cons, h2, mem_insC h, List.mem_cons]
    exact ⟨fun hh => by rcases hh with q | q | q <;> simp [q], fun hh => by rcases hh with (q | q) | q <;> simp [q]⟩
theorem strict_irr {α : Type} {c : α → α → Int} (h : OrdC c) {x : α} : ¬ c x x < 0 := by rw [h.refl]; omega
theorem strict_eq {α : Type} {c : α → α → Int} (h : OrdC c) : ∀ {a b : List α}, strictC c a → strictC c b → (∀ z, z ∈ a ↔ z ∈ b) → a = b
  | [], [], _, _, _ => rfl
  | [], y :: b, _, _, hm => by have := (hm y).2 List.mem_cons_self; simp at this
  | x :: a, [], _, _, hm => by have := (hm x).1 List.mem_cons_self; simp at this
  | x :: a, y :: b, ha, hb, hm => by
    obtain ⟨a1, a2⟩ := List.pairwise_cons.1 ha
    obtain ⟨b1, b2⟩ := List.pairwise_cons.1 hb
    have hxy : x = y := by
      rcases List.mem_cons.1 ((hm x).1 List.mem_cons_self) with h1 | h1
      · exact h1
      · rcases List.mem_cons.1 ((hm y).2 List.mem_cons_self) with h2 | h2
        · exact h2.symm
        · exact absurd (h.trans _ _ _ (a1 y h2) (b1 x h1)) (strict_irr h)
    subst hxy
    rw [strict_eq h a2 b2 fun z => ?_]
    constructor
    · intro hz
      rcases List.mem_cons.1 ((hm z).1 (List.mem_cons_of_mem _ hz)) with h1 | h1
      · subst h1; exact absurd (a1 z hz) (strict_irr h)
      · exact h1
    · intro hz
      rcases List.mem_cons.1 ((hm z).2 (List.mem_cons_of_mem _ hz)) with h1 | h1
      · subst h1; exact absurd (b1 z hz) (strict_irr h)
      · exact h1

theorem compGo_strict {α : Type} {c : α → α → Int} (h : OrdC c) : ∀ {l : List α} {p : α}, (p :: l).Pairwise (fun x y => ¬ c y x < 0) → strictC c (p :: compGo (fun x y => c x y == 0) p l) ∧ ∀ z, z ∈ p :: compGo (fun x y => c x y == 0) p l ↔ z ∈ p :: l
  | [], p, _ => by simp [compGo, strictC]
  | y :: l, p, hs => by
    obtain ⟨h1, h2⟩ := List.pairwise_cons.1 hs
    obtain ⟨i1, i2⟩ := compGo_strict h h2
    simp only [compGo]
    split
    · rename_i he
      have : y = p := (h.eq0 _ _).1 (by simpa using he)
      subst this
      exact ⟨i1, fun z => by rw [i2]; simp⟩
    · rename_i he
      have hne : y ≠ p := fun hh => he (by subst hh; simp [h.refl])
      have hlt : c p y < 0 := by
        rcases h.nle.1 (h1 y List.mem_cons_self) with h3 | h3
        · exact h3
        · exact absurd h3 hne
      refine ⟨List.pairwise_cons.2 ⟨fun z hz => ?_, i1⟩, fun z => ?_⟩
      · obtain ⟨j1, _⟩ := List.pairwise_cons.1 i1
        rcases List.mem_cons.1 hz with rfl | hz
        · exact hlt
        · exact h.trans _ _ _ hlt (j1 z hz)
      · have := i2 z
        rw [List.mem_cons, this]
        simp [List.mem_cons]
theorem compL_strict {α : Type} {c : α → α → Int} (h : OrdC c) {l : List α} (hs : l.Pairwise (fun x y => ¬ c y x < 0)) : strictC c (compL (fun x y => c x y == 0) l) ∧ ∀ z, z ∈ compL (fun x y => c x y == 0) l ↔ z ∈ l := by
  cases l with
  | nil => simp [compL, strictC]
  | cons x l => exact compGo_strict h hs

/-- THE LAW: insertion one by one = sorted, and what is twice left out -/
theorem fold_ins {α : Type} {c : α → α → Int} (h : OrdC c) (l : List α) : l.foldl (insC c) [] = compL (fun x y => c x y == 0) (sortC c l) := by
  obtain ⟨h1, h2⟩ := fold_strict h l [] List.Pairwise.nil
  obtain ⟨h3, h4⟩ := compL_strict h (sortC_sorted h l)
  refine strict_eq h h1 h3 fun z => ?_
  rw [h2, h4, (sortC_perm c l).mem_iff]
  simp
theorem strict_sorted {α : Type} {c : α → α → Int} (h : OrdC c) {l : List α} (hs : strictC c l) : l.Pairwise (fun x y => ¬ c y x < 0) := by
  refine hs.imp fun {x y} hxy => ?_
  have := (h.anti x y).1 hxy
  omega
/-- sorted once is sorted for good -/
theorem norm_idem {α : Type} {c : α → α → Int} (h : OrdC c) (l : List α) : compL (fun x y => c x y == 0) (sortC c (compL (fun x y => c x y == 0) (sortC c l))) = compL (fun x y => c x y == 0) (sortC c l) := by
  obtain ⟨h3, h4⟩ := compL_strict h (sortC_sorted h l)
  obtain ⟨h5, h6⟩ := compL_strict h (sortC_sorted h (compL (fun x y => c x y == 0) (sortC c l)))
  refine strict_eq h h5 h3 fun z => ?_
  rw [h6, (sortC_perm c _).mem_iff]
theorem compGo_len {α : Type} {e : α → α → Bool} : ∀ (l : List α) (p : α), (compGo e p l).length ≤ l.length
  | [], _ => by simp [compGo]
  | y :: l, p => by
    have := compGo_len (e := e) l y
    simp only [compGo]
    split <;> simp <;> omega
theorem compL_len {α : Type} {e : α → α → Bool} (l : List α) : (compL e l).length ≤ l.length := by
  cases l with
  | nil => simp [compL]
  | cons x l => have := compGo_len (e := e) l x; simp [compL]; omega
end Go.Proofs.Ytihkcegelghcpaa
end

