/- Parts of a proof, laid together: W8, W22, W5, W6, W11, EnU, PB. -/
import Derived.SizedLaws
import Derived.ProofKit
import Derived.OpenShut
import Derived.Carry
import Derived.Test.YtihkcegelghcpaaRows
import Derived.Test.YtihkcegelghcpaaqWk6
import Derived.Test.YtihkcegelghcpaaqWk8
import Derived.Test.YtihkcegelghcpaaqWk9
import Derived.Test.YtihkcegelghcpaaqWk10
section
/- A part of a proof: walks over the functions that it names; their contracts hold for every argument. -/



set_option linter.unusedSimpArgs false
set_option linter.unusedVariables false
namespace Go.Proofs.Ytihkcegelghcpaa
open Go Go.Dm
attribute [local irreducible] DW callP callS
set_option maxRecDepth 100000

theorem rsorted_norm (c : Cnf) : DPure Try.prog 29 [.agg (dCnf c)] (.agg (dCnf (normC c))) := by
  have h := rsorted_pure c
  rw [fold_ins ordProd] at h
  exact h

def anW88 : Ann := ⟨[], [⟨1, [3], [], []⟩, ⟨2, [5], [], []⟩]⟩
set_option maxHeartbeats 4000000 in
theorem cfgSorts_pure (c : Cnf) : DPure Try.prog 8 [.agg (dCnf c)] (.bool true) := by
  refine DPure_introF [] (fn := Try.f8) Try.func8 rfl Try.call8 (by simp [Try.ntmps8]) (by simp [mx]) ?_
  intro hwf B hnt
  simp only [argS]
  have h1 := copy_pure c
  have h2 := fturn_pure' c
  have h4 := fsort_pure' c
  have h6 := head12_pure
  have h7 := rcheck_pure c
  cases hb : cnfOK c
  · rw [hb] at h2 h4 h7
    simp only [Bool.false_eq_true, if_false] at h2 h4 h7
    (repeat (first
        | (refine DW_seq fun K hK => ?_)
        | (refine DW_r anW88 Try.mixed (by kernel_rfl) ?_; simp [hnt, Try.ntmps8, Try.results8, anW88, dCnf]; try simp (disch := omega) only [wrap64_in])
        | (refine DW_block ?_)
        | (focus (refine DW_if ?_ ?_ ?_; (· (simp [hnt, Try.ntmps8, Try.results8, anW88, dCnf]; done)); (try (rotate_left; (· (intro hc; (try simp [hnt, Try.ntmps8, Try.results8, anW88, dCnf] at hc); done))))))
        | (refine DW_ret ?_; simp [hnt, Try.ntmps8, Try.results8, anW88, dCnf])
        | (refine DW_exit ?_; simp [hnt, Try.ntmps8, Try.results8, anW88, dCnf])
        | (refine DW_skip ?_; simp [hnt, Try.ntmps8, Try.results8, anW88, dCnf])
        | (intro hc; (try simp [hnt, Try.ntmps8, Try.results8, anW88, dCnf] at hc); done)
        | (intro hc; (try simp [hnt, Try.ntmps8, Try.results8, anW88, dCnf] at hc); (first | (exfalso; omega) | skip))
        | (refine callP_mk (h1) ?_; try simp [hnt, Try.ntmps8, Try.results8, anW88, dCnf])
        | (refine callP_wk (h1) ?_ ?_; (· (simp; done)); try simp [hnt, Try.ntmps8, Try.results8, anW88, dCnf])
        | (refine callP_mk (h2) ?_; try simp [hnt, Try.ntmps8, Try.results8, anW88, dCnf])
        | (refine callP_wk (h2) ?_ ?_; (· (simp; done)); try simp [hnt, Try.ntmps8, Try.results8, anW88, dCnf])
        | (refine callP_mk (h4) ?_; try simp [hnt, Try.ntmps8, Try.results8, anW88, dCnf])
        | (refine callP_wk (h4) ?_ ?_; (· (simp; done)); try simp [hnt, Try.ntmps8, Try.results8, anW88, dCnf])
        | (refine callP_mk (h6) ?_; try simp [hnt, Try.ntmps8, Try.results8, anW88, dCnf])
        | (refine callP_wk (h6) ?_ ?_; (· (simp; done)); try simp [hnt, Try.ntmps8, Try.results8, anW88, dCnf])
        | (refine callP_mk (h7) ?_; try simp [hnt, Try.ntmps8, Try.results8, anW88, dCnf])
        | (refine callP_wk (h7) ?_ ?_; (· (simp; done)); try simp [hnt, Try.ntmps8, Try.results8, anW88, dCnf])
        | (refine ⟨?_, ?_⟩; · omega)
        | omega
        | apply_assumption -exfalso -symm
        | (exfalso; omega)))
  · rw [hb] at h2 h4 h7
    simp only [if_true] at h2 h4 h7
    have h3 := rsorted_norm c
    have h5 := rturn_pure c
    have h8 := same23_pure (normC c) (normC c)
    have h9 := same23_pure (turnC c) (turnC c)
    simp only [decide_true] at h8 h9
    (repeat (first
        | (refine DW_seq fun K hK => ?_)
        | (refine DW_r anW88 Try.mixed (by kernel_rfl) ?_; simp [hnt, Try.ntmps8, Try.results8, anW88, dCnf]; try simp (disch := omega) only [wrap64_in])
        | (refine DW_block ?_)
        | (focus (refine DW_if ?_ ?_ ?_; (· (simp [hnt, Try.ntmps8, Try.results8, anW88, dCnf]; done)); (try (rotate_left; (· (intro hc; (try simp [hnt, Try.ntmps8, Try.results8, anW88, dCnf] at hc); done))))))
        | (refine DW_ret ?_; simp [hnt, Try.ntmps8, Try.results8, anW88, dCnf])
        | (refine DW_exit ?_; simp [hnt, Try.ntmps8, Try.results8, anW88, dCnf])
        | (refine DW_skip ?_; simp [hnt, Try.ntmps8, Try.results8, anW88, dCnf])
        | (intro hc; (try simp [hnt, Try.ntmps8, Try.results8, anW88, dCnf] at hc); done)
        | (intro hc; (try simp [hnt, Try.ntmps8, Try.results8, anW88, dCnf] at hc); (first | (exfalso; omega) | skip))
        | (refine callP_mk (h1) ?_; try simp [hnt, Try.ntmps8, Try.results8, anW88, dCnf])
        | (refine callP_wk (h1) ?_ ?_; (· (simp; done)); try simp [hnt, Try.ntmps8, Try.results8, anW88, dCnf])
        | (refine callP_mk (h2) ?_; try simp [hnt, Try.ntmps8, Try.results8, anW88, dCnf])
        | (refine callP_wk (h2) ?_ ?_; (· (simp; done)); try simp [hnt, Try.ntmps8, Try.results8, anW88, dCnf])
        | (refine callP_mk (h3) ?_; try simp [hnt, Try.ntmps8, Try.results8, anW88, dCnf])
        | (refine callP_wk (h3) ?_ ?_; (· (simp; done)); try simp [hnt, Try.ntmps8, Try.results8, anW88, dCnf])
        | (refine callP_mk (h4) ?_; try simp [hnt, Try.ntmps8, Try.results8, anW88, dCnf])
        | (refine callP_wk (h4) ?_ ?_; (· (simp; done)); try simp [hnt, Try.ntmps8, Try.results8, anW88, dCnf])
        | (refine callP_mk (h5) ?_; try simp [hnt, Try.ntmps8, Try.results8, anW88, dCnf])
        | (refine callP_wk (h5) ?_ ?_; (· (simp; done)); try simp [hnt, Try.ntmps8, Try.results8, anW88, dCnf])
        | (refine callP_mk (h6) ?_; try simp [hnt, Try.ntmps8, Try.results8, anW88, dCnf])
        | (refine callP_wk (h6) ?_ ?_; (· (simp; done)); try simp [hnt, Try.ntmps8, Try.results8, anW88, dCnf])
        | (refine callP_mk (h7) ?_; try simp [hnt, Try.ntmps8, Try.results8, anW88, dCnf])
        | (refine callP_wk (h7) ?_ ?_; (· (simp; done)); try simp [hnt, Try.ntmps8, Try.results8, anW88, dCnf])
        | (refine callP_mk (h8) ?_; try simp [hnt, Try.ntmps8, Try.results8, anW88, dCnf])
        | (refine callP_wk (h8) ?_ ?_; (· (simp; done)); try simp [hnt, Try.ntmps8, Try.results8, anW88, dCnf])
        | (refine callP_mk (h9) ?_; try simp [hnt, Try.ntmps8, Try.results8, anW88, dCnf])
        | (refine callP_wk (h9) ?_ ?_; (· (simp; done)); try simp [hnt, Try.ntmps8, Try.results8, anW88, dCnf])
        | (refine ⟨?_, ?_⟩; · omega)
        | omega
        | apply_assumption -exfalso -symm
        | (exfalso; omega)))
end Go.Proofs.Ytihkcegelghcpaa
end

section
/- A part of a proof: walks over the functions that it names; their contracts hold for every argument. -/


set_option linter.unusedSimpArgs false
set_option linter.unusedVariables false
namespace Go.Proofs.Ytihkcegelghcpaa
open Go Go.Dm
attribute [local irreducible] DW callP callS
set_option maxRecDepth 100000

def anW2252 : Ann := ⟨[2], [⟨20, [], [], [9]⟩]⟩
set_option maxHeartbeats 4000000 in
theorem addR_big (m : Mk) (p : Prod) (hb : 1026 < p.body.length) :
    DSpec Try.prog (.func 52) [fmD 0 0 m, .agg (dProd p)] (dFo 0 0 m) (fmD 1 1 { m with nts := 1025 }) (dFo 1 1 { m with nts := 1025 }) := by
  obtain ⟨hd, l⟩ := p
  simp only at hb
  refine DSpec_intro [2, 4] [(0, 0, 1), (1, 1, 1)] (fn := Try.f52) Try.func52 rfl Try.call52 (by simp [Try.ntmps52]) (by simp) (by simp [dFo]) ?_
  intro hwf B hnt
  simp only [argS, fmD]
  have q1 : ¬ l = [] := fun h => by rw [h] at hb; simp at hb
  have q2 : ¬ (l.length : Int) = 1 := by omega
  have q3 : (1026 : Int) < l.length := by omega
  have q4 : ¬ (l.length : Int) = 0 := by omega
  have q5 : ((l.length : Int) == 0) = false := by simpa using q4
  have q6 : ((l.length : Int) == 1) = false := by simpa using q2
  have q7 : ¬ l.length = 1 := by omega
  have hn1 : noR { m with nts := 1025 } = noR m := rfl
  have hn2 : hs16 { m with nts := 1025 } = hs16 m := rfl
  obtain ⟨s0, hs0, hs0', _⟩ := at_lt' (show 0 < l.length by omega)
  (repeat (first
      | (refine DW_seq fun K hK => ?_)
      | (refine DW_r anW2252 Try.mixed (by kernel_rfl) ?_; simp [hnt, Try.ntmps52, Try.results52, anW2252, dFo, dProd, dSym, q1, q2, q3, q4, q5, q6, q7, hs0, hs0', hn1, hn2]; try simp (disch := omega) only [wrap64_in])
      | (refine DW_block ?_)
      | (focus (refine DW_if ?_ ?_ ?_; (· (simp [hnt, Try.ntmps52, Try.results52, anW2252, dFo, dProd, dSym, q1, q2, q3, q4, q5, q6, q7, hs0, hs0', hn1, hn2]; done)); (try (rotate_left; (· (intro hc; (try simp [hnt, Try.ntmps52, Try.results52, anW2252, dFo, dProd, dSym, q1, q2, q3, q4, q5, q6, q7, hs0, hs0', hn1, hn2] at hc); done))))))
      | (refine DW_ret ?_; simp [hnt, Try.ntmps52, Try.results52, anW2252, dFo, dProd, dSym, q1, q2, q3, q4, q5, q6, q7, hs0, hs0', hn1, hn2])
      | (refine DW_exit ?_; simp [hnt, Try.ntmps52, Try.results52, anW2252, dFo, dProd, dSym, q1, q2, q3, q4, q5, q6, q7, hs0, hs0', hn1, hn2])
      | (refine DW_skip ?_; simp [hnt, Try.ntmps52, Try.results52, anW2252, dFo, dProd, dSym, q1, q2, q3, q4, q5, q6, q7, hs0, hs0', hn1, hn2])
      | (intro hc; (try simp [hnt, Try.ntmps52, Try.results52, anW2252, dFo, dProd, dSym, q1, q2, q3, q4, q5, q6, q7, hs0, hs0', hn1, hn2] at hc); done)
      | (intro hc; (try simp [hnt, Try.ntmps52, Try.results52, anW2252, dFo, dProd, dSym, q1, q2, q3, q4, q5, q6, q7, hs0, hs0', hn1, hn2] at hc); (first | (exfalso; omega) | skip))
      | (refine ⟨?_, ?_⟩; · omega)
      | omega
      | apply_assumption -exfalso -symm
      | (exfalso; omega)))
theorem addR_spec (m : Mk) (p : Prod) (hg : GoodM m) (hok : ∀ s ∈ p.body, symG m.nts s) (hl2 : p.body.length ≤ 1026) (h2 : m.nts + 4000 ≤ 9223372036854775807) (h3 : (m.prods.length + 4000) * 32 ≤ 150000000000000) :
    DSpec Try.prog (.func 52) [fmD 0 0 m, .agg (dProd p)] (dFo 0 0 m) (fmD 1 1 (m.add p)) (dFo 1 1 (m.add p)) := by
  by_cases hf : formOf p.body = 1 ∨ formOf p.body = 2
  · exact addR_easy m p hf (mul32 (by omega) h3)
  · by_cases hl : p.body.length = 1
    · exact addR_one m p hf hl hg.no.1 hg.one (by omega) (mul32 (by omega) h3)
    · refine addR_more m p hf hl hl2 (fun s hs hlb => ?_) hg.pos h2 h3
      have := hok s hs
      unfold symG at this
      rw [if_pos hlb] at this
      exact this

def anW2222 : Ann := ⟨[12, 26], []⟩
set_option maxHeartbeats 8000000 in
theorem rof_pure (c : Cnf) (hsz : (c.prods.length + 8000) * 32 ≤ 150000000000000) : DPure Try.prog 22 [.agg (dCnf c)] (.tup [.agg (dCnf (ofC c).1), .int .i64 (ofC c).2]) := by
  have key : ∀ d, d = (if cnfOK c then (match (Mk.start c).adds c.prods with | none => .tup [.agg [.int .i64 0, .nilsl], .int .i64 240] | some m => .tup [.agg (dCnf (normC m.cnf)), .int .i64 0]) else .tup [.agg [.int .i64 0, .nilsl], .int .i64 220]) → DPure Try.prog 22 [.agg (dCnf c)] d := by
    intro d hd
    refine DPure_introF [] (fn := Try.f22) Try.func22 rfl Try.call22 (by simp [Try.ntmps22]) ?_ ?_
    · subst hd
      split
      · split <;> simp [mx, dCnf]
      · simp [mx]
    intro hwf B hnt
    have hw : wCnf c := w_cnf (by simpa [wfL, wfD] using hwf.1)
    obtain ⟨hw1, hw2, hw3, hw4⟩ := hw
    clear hwf
    simp only [argS]
    have h1 := rcheck_pure c
    cases hb : cnfOK c
    · rw [hb] at h1 hd
      simp only [Bool.false_eq_true, if_false] at hd
      subst hd
      (repeat (first
          | (refine DW_seq fun K hK => ?_)
          | (refine DW_r anW2222 Try.mixed (by kernel_rfl) ?_; simp [hnt, Try.ntmps22, Try.results22, anW2222, dCnf]; try simp (disch := omega) only [wrap64_in])
          | (refine DW_block ?_)
          | (focus (refine DW_if ?_ ?_ ?_; (· (simp [hnt, Try.ntmps22, Try.results22, anW2222, dCnf]; done)); (try (rotate_left; (· (intro hc; (try simp [hnt, Try.ntmps22, Try.results22, anW2222, dCnf] at hc); done))))))
          | (refine DW_ret ?_; simp [hnt, Try.ntmps22, Try.results22, anW2222, dCnf])
          | (refine DW_exit ?_; simp [hnt, Try.ntmps22, Try.results22, anW2222, dCnf])
          | (refine DW_skip ?_; simp [hnt, Try.ntmps22, Try.results22, anW2222, dCnf])
          | (intro hc; (try simp [hnt, Try.ntmps22, Try.results22, anW2222, dCnf] at hc); done)
          | (intro hc; (try simp [hnt, Try.ntmps22, Try.results22, anW2222, dCnf] at hc); (first | (exfalso; omega) | skip))
          | (refine callP_mk (h1) ?_; try simp [hnt, Try.ntmps22, Try.results22, anW2222, dCnf])
          | (refine callP_wk (h1) ?_ ?_; (· (simp; done)); try simp [hnt, Try.ntmps22, Try.results22, anW2222, dCnf])
          | (refine ⟨?_, ?_⟩; · omega)
          | omega
          | apply_assumption -exfalso -symm
          | (exfalso; omega)))
    rw [hb] at h1 hd
    simp only [if_true] at hd
    have hh0 : hs16 (Mk.start c) = List.replicate 16 (-1) := rfl
    have h4 := begin_spec c.nts
    rw [← hh0] at h4
    clear hh0
    (repeat (first
        | (refine DW_seq fun K hK => ?_)
        | (refine DW_r anW2222 Try.mixed (by kernel_rfl) ?_; simp [hnt, Try.ntmps22, Try.results22, anW2222, dCnf]; try simp (disch := omega) only [wrap64_in])
        | (refine DW_block ?_)
        | (focus (refine DW_if ?_ ?_ ?_; (· (simp [hnt, Try.ntmps22, Try.results22, anW2222, dCnf]; done)); (try (rotate_left; (· (intro hc; (try simp [hnt, Try.ntmps22, Try.results22, anW2222, dCnf] at hc); done))))))
        | (refine DW_ret ?_; simp [hnt, Try.ntmps22, Try.results22, anW2222, dCnf])
        | (refine DW_exit ?_; simp [hnt, Try.ntmps22, Try.results22, anW2222, dCnf])
        | (refine DW_skip ?_; simp [hnt, Try.ntmps22, Try.results22, anW2222, dCnf])
        | (intro hc; (try simp [hnt, Try.ntmps22, Try.results22, anW2222, dCnf] at hc); done)
        | (intro hc; (try simp [hnt, Try.ntmps22, Try.results22, anW2222, dCnf] at hc); (first | (exfalso; omega) | skip))
        | (refine callP_mk (h1) ?_; try simp [hnt, Try.ntmps22, Try.results22, anW2222, dCnf])
        | (refine callP_wk (h1) ?_ ?_; (· (simp; done)); try simp [hnt, Try.ntmps22, Try.results22, anW2222, dCnf])
        | (refine callS_mk [] [(51,0)] (h4) ?_ ?_; (· (simp [hnt, Try.ntmps22, Try.results22, anW2222, dCnf]; done)); (intro _; try simp [hnt, Try.ntmps22, Try.results22, anW2222, dCnf]))
        | (refine ⟨?_, ?_⟩; · omega)
        | omega
        | apply_assumption -exfalso -symm
        | (exfalso; omega)))
    refine DW_adoptC 4 1 50 33 2 32 (by simp) (fun n => ?_)
    have hgs := good_start hb
    obtain ⟨hn12, hcp⟩ := cnfOK_iff.1 hb
    obtain ⟨hn1, hn2⟩ := hn12
    obtain ⟨R, hR⟩ : ∃ R, R = (Mk.start c).adds c.prods := ⟨_, rfl⟩
    rw [← hR] at hd
    have hno : noR ⟨c.nts, [], [], 0⟩ = -1 := rfl
    refine DW_loop (X := {x : Nat × Mk // x.1 ≤ c.prods.length ∧ x.2.adds (c.prods.drop x.1) = R ∧ c.nts ≤ x.2.nts ∧ x.2.nts ≤ 1024 ∧ (x.2.prods.length : Int) = x.1 + x.2.nts - c.nts ∧ GoodM x.2})
      (fun x => ⟨[(1, .ref (dCnf c)), (2, .bx 2 1 0), (3, .int .i64 0), (4, .bx 4 1 0), (5, .int .i64 x.1.1)], [⟨2, 1, .box [.int .i64 0, .nilsl]⟩, ⟨4, 1, .box [.int .i64 x.1.2.nts, .osl 50 1, .osl 51 1, .int .i64 (noR x.1.2)]⟩, ⟨50, 1, .row 33 2 32 (x.1.2.prods.map dProd)⟩, ⟨51, 1, .row 3 1 8 ((hs16 x.1.2).map dInt1)⟩]⟩)
      (fun x => c.prods.length - x.1.1) ⟨(0, Mk.start c), by simp [hR, Mk.start]; exact ⟨by omega, hgs⟩⟩ (Sub.lit (by simp [dCnf, Mk.start, hno])) ?_
    rintro ⟨⟨k, m1⟩, hk, hA, b1, b2, b3, b4⟩
    simp only at hk hA b1 b2 b3 b4 ⊢
    clear hR
    by_cases hlt : k < c.prods.length
    · obtain ⟨p, hp, hp', hpm⟩ := at_lt' hlt
      obtain ⟨hw5, hw6, hw7, hw8⟩ := hw4 p hpm
      obtain ⟨hh1, hh2⟩ := hcp p hpm
      rw [List.drop_eq_getElem_cons hlt, hp'] at hA
      simp only [Mk.adds] at hA
      obtain ⟨g1, g2, g3, g4⟩ := add_gap m1 p
      simp only [Mk.gap] at g1
      have hsy : ∀ s ∈ p.body, symG m1.nts s := fun s hs => symG_mono b1 (hh2 s hs)
      by_cases hbig : 1026 < p.body.length
      · have e1 := addR_big m1 p hbig
        rw [if_pos (by have := b4.one; omega)] at hA
        subst hA
        simp only at hd
        subst hd
        simp only [fmD] at e1
        (repeat (first
            | (refine DW_seq fun K hK => ?_)
            | (refine DW_r anW2222 Try.mixed (by kernel_rfl) ?_; simp [hnt, Try.ntmps22, Try.results22, anW2222, dFo, dCnf, dProd, hlt, hp']; try simp (disch := omega) only [wrap64_in])
            | (refine DW_block ?_)
            | (focus (refine DW_if ?_ ?_ ?_; (· (simp [hnt, Try.ntmps22, Try.results22, anW2222, dFo, dCnf, dProd, hlt, hp']; done)); (try (rotate_left; (· (intro hc; (try simp [hnt, Try.ntmps22, Try.results22, anW2222, dFo, dCnf, dProd, hlt, hp'] at hc); done))))))
            | (refine DW_ret ?_; simp [hnt, Try.ntmps22, Try.results22, anW2222, dFo, dCnf, dProd, hlt, hp'])
            | (refine DW_exit ?_; simp [hnt, Try.ntmps22, Try.results22, anW2222, dFo, dCnf, dProd, hlt, hp'])
            | (refine DW_skip ?_; simp [hnt, Try.ntmps22, Try.results22, anW2222, dFo, dCnf, dProd, hlt, hp'])
            | (intro hc; (try simp [hnt, Try.ntmps22, Try.results22, anW2222, dFo, dCnf, dProd, hlt, hp'] at hc); done)
            | (intro hc; (try simp [hnt, Try.ntmps22, Try.results22, anW2222, dFo, dCnf, dProd, hlt, hp'] at hc); (first | (exfalso; omega) | skip))
            | (refine callP_mk (h1) ?_; try simp [hnt, Try.ntmps22, Try.results22, anW2222, dFo, dCnf, dProd, hlt, hp'])
            | (refine callP_wk (h1) ?_ ?_; (· (simp; done)); try simp [hnt, Try.ntmps22, Try.results22, anW2222, dFo, dCnf, dProd, hlt, hp'])
            | (refine callS_mk [(50,0),(51,1)] [] (e1) ?_ ?_; (· (simp [hnt, Try.ntmps22, Try.results22, anW2222, dFo, dCnf, dProd, hlt, hp']; done)); (intro _; try simp [hnt, Try.ntmps22, Try.results22, anW2222, dFo, dCnf, dProd, hlt, hp']))
            | (refine ⟨?_, ?_⟩; · omega)
            | omega
            | apply_assumption -exfalso -symm
            | (exfalso; omega)))
      · have e1 := addR_spec m1 p b4 hsy (by omega) (by omega) (Nat.le_trans (Nat.mul_le_mul_right 32 (show m1.prods.length + 4000 ≤ c.prods.length + 8000 by omega)) hsz)
        have hg2 := good_add b4 ⟨hh1.1, by have := hh1.2; omega⟩ hsy
        generalize hm2 : m1.add p = m2 at e1 hA g1 g2 g3 g4 hg2
        simp only [fmD] at e1
        by_cases hov : 1024 < m2.nts
        · rw [if_pos hov] at hA
          subst hA
          simp only at hd
          subst hd
          (repeat (first
              | (refine DW_seq fun K hK => ?_)
              | (refine DW_r anW2222 Try.mixed (by kernel_rfl) ?_; simp [hnt, Try.ntmps22, Try.results22, anW2222, dFo, dCnf, dProd, hlt, hp', hov]; try simp (disch := omega) only [wrap64_in])
              | (refine DW_block ?_)
              | (focus (refine DW_if ?_ ?_ ?_; (· (simp [hnt, Try.ntmps22, Try.results22, anW2222, dFo, dCnf, dProd, hlt, hp', hov]; done)); (try (rotate_left; (· (intro hc; (try simp [hnt, Try.ntmps22, Try.results22, anW2222, dFo, dCnf, dProd, hlt, hp', hov] at hc); done))))))
              | (refine DW_ret ?_; simp [hnt, Try.ntmps22, Try.results22, anW2222, dFo, dCnf, dProd, hlt, hp', hov])
              | (refine DW_exit ?_; simp [hnt, Try.ntmps22, Try.results22, anW2222, dFo, dCnf, dProd, hlt, hp', hov])
              | (refine DW_skip ?_; simp [hnt, Try.ntmps22, Try.results22, anW2222, dFo, dCnf, dProd, hlt, hp', hov])
              | (intro hc; (try simp [hnt, Try.ntmps22, Try.results22, anW2222, dFo, dCnf, dProd, hlt, hp', hov] at hc); done)
              | (intro hc; (try simp [hnt, Try.ntmps22, Try.results22, anW2222, dFo, dCnf, dProd, hlt, hp', hov] at hc); (first | (exfalso; omega) | skip))
              | (refine callP_mk (h1) ?_; try simp [hnt, Try.ntmps22, Try.results22, anW2222, dFo, dCnf, dProd, hlt, hp', hov])
              | (refine callP_wk (h1) ?_ ?_; (· (simp; done)); try simp [hnt, Try.ntmps22, Try.results22, anW2222, dFo, dCnf, dProd, hlt, hp', hov])
              | (refine callS_mk [(50,0),(51,1)] [] (e1) ?_ ?_; (· (simp [hnt, Try.ntmps22, Try.results22, anW2222, dFo, dCnf, dProd, hlt, hp', hov]; done)); (intro _; try simp [hnt, Try.ntmps22, Try.results22, anW2222, dFo, dCnf, dProd, hlt, hp', hov]))
              | (refine ⟨?_, ?_⟩; · omega)
              | omega
              | apply_assumption -exfalso -symm
              | (exfalso; omega)))
        · rw [if_neg hov] at hA
          (repeat (first
              | (refine DW_seq fun K hK => ?_)
              | (refine DW_r anW2222 Try.mixed (by kernel_rfl) ?_; simp [hnt, Try.ntmps22, Try.results22, anW2222, dFo, dCnf, dProd, hlt, hp', hov]; try simp (disch := omega) only [wrap64_in])
              | (refine DW_block ?_)
              | (focus (refine DW_if ?_ ?_ ?_; (· (simp [hnt, Try.ntmps22, Try.results22, anW2222, dFo, dCnf, dProd, hlt, hp', hov]; done)); (try (rotate_left; (· (intro hc; (try simp [hnt, Try.ntmps22, Try.results22, anW2222, dFo, dCnf, dProd, hlt, hp', hov] at hc); done))))))
              | (refine DW_ret ?_; simp [hnt, Try.ntmps22, Try.results22, anW2222, dFo, dCnf, dProd, hlt, hp', hov])
              | (refine DW_exit ?_; simp [hnt, Try.ntmps22, Try.results22, anW2222, dFo, dCnf, dProd, hlt, hp', hov])
              | (refine DW_skip ?_; simp [hnt, Try.ntmps22, Try.results22, anW2222, dFo, dCnf, dProd, hlt, hp', hov])
              | (intro hc; (try simp [hnt, Try.ntmps22, Try.results22, anW2222, dFo, dCnf, dProd, hlt, hp', hov] at hc); done)
              | (intro hc; (try simp [hnt, Try.ntmps22, Try.results22, anW2222, dFo, dCnf, dProd, hlt, hp', hov] at hc); (first | (exfalso; omega) | skip))
              | (refine callP_mk (h1) ?_; try simp [hnt, Try.ntmps22, Try.results22, anW2222, dFo, dCnf, dProd, hlt, hp', hov])
              | (refine callP_wk (h1) ?_ ?_; (· (simp; done)); try simp [hnt, Try.ntmps22, Try.results22, anW2222, dFo, dCnf, dProd, hlt, hp', hov])
              | (refine callS_mk [(50,0),(51,1)] [] (e1) ?_ ?_; (· (simp [hnt, Try.ntmps22, Try.results22, anW2222, dFo, dCnf, dProd, hlt, hp', hov]; done)); (intro _; try simp [hnt, Try.ntmps22, Try.results22, anW2222, dFo, dCnf, dProd, hlt, hp', hov]))
              | (refine ⟨?_, ?_⟩; · omega)
              | omega
              | apply_assumption -exfalso -symm
              | (exfalso; omega)))
          refine Again.mk ⟨(k + 1, m2), show k + 1 ≤ c.prods.length ∧ _ ∧ c.nts ≤ m2.nts ∧ m2.nts ≤ 1024 ∧ (m2.prods.length : Int) = ((k + 1 : Nat) : Int) + m2.nts - c.nts ∧ GoodM m2 from ⟨by omega, hA, by omega, by omega, by omega, hg2⟩⟩ (Sub.lit (by simp [dFo, dCnf])) (by simp; omega)
          (repeat (first
              | (refine DW_seq fun K hK => ?_)
              | (refine DW_r anW2222 Try.mixed (by kernel_rfl) ?_; simp [hnt, Try.ntmps22, Try.results22, anW2222]; try simp (disch := omega) only [wrap64_in])
              | (refine DW_block ?_)
              | (focus (refine DW_if ?_ ?_ ?_; (· (simp [hnt, Try.ntmps22, Try.results22, anW2222]; done)); (try (rotate_left; (· (intro hc; (try simp [hnt, Try.ntmps22, Try.results22, anW2222] at hc); done))))))
              | (refine DW_ret ?_; simp [hnt, Try.ntmps22, Try.results22, anW2222])
              | (refine DW_exit ?_; simp [hnt, Try.ntmps22, Try.results22, anW2222])
              | (refine DW_skip ?_; simp [hnt, Try.ntmps22, Try.results22, anW2222])
              | (intro hc; (try simp [hnt, Try.ntmps22, Try.results22, anW2222] at hc); done)
              | (intro hc; (try simp [hnt, Try.ntmps22, Try.results22, anW2222] at hc); (first | (exfalso; omega) | skip))
              | (refine callP_mk (h1) ?_; try simp [hnt, Try.ntmps22, Try.results22, anW2222])
              | (refine callP_wk (h1) ?_ ?_; (· (simp; done)); try simp [hnt, Try.ntmps22, Try.results22, anW2222])
              | (refine callS_mk [(50,0),(51,1)] [] (e1) ?_ ?_; (· (simp [hnt, Try.ntmps22, Try.results22, anW2222]; done)); (intro _; try simp [hnt, Try.ntmps22, Try.results22, anW2222]))
              | (refine ⟨?_, ?_⟩; · omega)
              | omega
              | apply_assumption -exfalso -symm
              | (exfalso; omega)))
    · have hkk : k = c.prods.length := by omega
      subst hkk
      rw [List.drop_length] at hA
      simp only [Mk.adds] at hA
      subst hA
      simp only at hd
      subst hd
      refine DW_sub (Sub.freezeL [50] _) ?_
      simp [hnt, Try.ntmps22, Try.results22, anW2222, dCnf]
      have h2 := rsorted_norm m1.cnf
      simp only [Mk.cnf, dCnf] at h2
      (repeat (first
          | (refine DW_seq fun K hK => ?_)
          | (refine DW_r anW2222 Try.mixed (by kernel_rfl) ?_; simp [hnt, Try.ntmps22, Try.results22, anW2222, dCnf, Mk.cnf]; try simp (disch := omega) only [wrap64_in])
          | (refine DW_block ?_)
          | (focus (refine DW_if ?_ ?_ ?_; (· (simp [hnt, Try.ntmps22, Try.results22, anW2222, dCnf, Mk.cnf]; done)); (try (rotate_left; (· (intro hc; (try simp [hnt, Try.ntmps22, Try.results22, anW2222, dCnf, Mk.cnf] at hc); done))))))
          | (refine DW_ret ?_; simp [hnt, Try.ntmps22, Try.results22, anW2222, dCnf, Mk.cnf])
          | (refine DW_exit ?_; simp [hnt, Try.ntmps22, Try.results22, anW2222, dCnf, Mk.cnf])
          | (refine DW_skip ?_; simp [hnt, Try.ntmps22, Try.results22, anW2222, dCnf, Mk.cnf])
          | (intro hc; (try simp [hnt, Try.ntmps22, Try.results22, anW2222, dCnf, Mk.cnf] at hc); done)
          | (intro hc; (try simp [hnt, Try.ntmps22, Try.results22, anW2222, dCnf, Mk.cnf] at hc); (first | (exfalso; omega) | skip))
          | (refine callP_mk (h2) ?_; try simp [hnt, Try.ntmps22, Try.results22, anW2222, dCnf, Mk.cnf])
          | (refine callP_wk (h2) ?_ ?_; (· (simp; done)); try simp [hnt, Try.ntmps22, Try.results22, anW2222, dCnf, Mk.cnf])
          | (refine ⟨?_, ?_⟩; · omega)
          | omega
          | apply_assumption -exfalso -symm
          | (exfalso; omega)))
  have hk := key _ rfl
  rw [ofC_eq]
  cases hb : cnfOK c <;> rw [hb] at hk
  · exact DPure.wkT hk (by simp [cnf0, dCnf, dProds]) (by simp [mx])
  · simp only [if_true] at hk ⊢
    cases hA : (Mk.start c).adds c.prods with
    | none =>
      rw [hA] at hk
      exact DPure.wkT hk (by simp [cnf0, dCnf, dProds]) (by simp [mx])
    | some m =>
      rw [hA] at hk
      exact hk
end Go.Proofs.Ytihkcegelghcpaa
end

section
/- A part of a proof: walks over the functions that it names; their contracts hold for every argument. -/

set_option linter.unusedSimpArgs false
set_option linter.unusedVariables false
namespace Go.Proofs.Ytihkcegelghcpaa
open Go Go.Dm
attribute [local irreducible] DW callP callS
set_option maxRecDepth 100000

theorem big_of {n : Nat} (h : n * 32 ≤ 140737488355328) : (n + 8000) * 32 ≤ 150000000000000 := by omega
def anW55 : Ann := ⟨[], [⟨1, [3], [], []⟩, ⟨2, [5], [], []⟩]⟩
theorem wcnfOf_pure (c : Cnf) (hsz : c.prods.length * 32 ≤ 140737488355328) : DPure Try.prog 5 [.agg (dCnf c)] (.bool true) := by
  refine DPure_introF [] (fn := Try.f5) Try.func5 rfl Try.call5 (by simp [Try.ntmps5]) (by simp [mx]) ?_
  intro hwf B hnt
  simp only [argS]
  have h1 := copy_pure c
  have h2 := of21_pure c (big_of hsz)
  have h3 := rof_pure c (big_of hsz)
  have h4 := head14_pure
  generalize (ofC c).1 = x at h2 h3
  generalize (ofC c).2 = e at h2 h3
  have h5 := same23_pure x x
  simp only [decide_true] at h5
  (repeat (first
      | (refine DW_seq fun K hK => ?_)
      | (refine DW_r anW55 Try.mixed (by kernel_rfl) ?_; simp [hnt, Try.ntmps5, Try.results5, anW55, dCnf]; try simp (disch := omega) only [wrap64_in])
      | (refine DW_block ?_)
      | (focus (refine DW_if ?_ ?_ ?_; (· (simp [hnt, Try.ntmps5, Try.results5, anW55, dCnf]; done)); (try (rotate_left; (· (intro hc; (try simp [hnt, Try.ntmps5, Try.results5, anW55, dCnf] at hc); done))))))
      | (refine DW_ret ?_; simp [hnt, Try.ntmps5, Try.results5, anW55, dCnf])
      | (refine DW_exit ?_; simp [hnt, Try.ntmps5, Try.results5, anW55, dCnf])
      | (refine DW_skip ?_; simp [hnt, Try.ntmps5, Try.results5, anW55, dCnf])
      | (intro hc; (try simp [hnt, Try.ntmps5, Try.results5, anW55, dCnf] at hc); done)
      | (intro hc; (try simp [hnt, Try.ntmps5, Try.results5, anW55, dCnf] at hc); (first | (exfalso; omega) | skip))
      | (refine callP_mk (h1) ?_; try simp [hnt, Try.ntmps5, Try.results5, anW55, dCnf])
      | (refine callP_wk (h1) ?_ ?_; (· (simp; done)); try simp [hnt, Try.ntmps5, Try.results5, anW55, dCnf])
      | (refine callP_mk (h2) ?_; try simp [hnt, Try.ntmps5, Try.results5, anW55, dCnf])
      | (refine callP_wk (h2) ?_ ?_; (· (simp; done)); try simp [hnt, Try.ntmps5, Try.results5, anW55, dCnf])
      | (refine callP_mk (h3) ?_; try simp [hnt, Try.ntmps5, Try.results5, anW55, dCnf])
      | (refine callP_wk (h3) ?_ ?_; (· (simp; done)); try simp [hnt, Try.ntmps5, Try.results5, anW55, dCnf])
      | (refine callP_mk (h4) ?_; try simp [hnt, Try.ntmps5, Try.results5, anW55, dCnf])
      | (refine callP_wk (h4) ?_ ?_; (· (simp; done)); try simp [hnt, Try.ntmps5, Try.results5, anW55, dCnf])
      | (refine callP_mk (h5) ?_; try simp [hnt, Try.ntmps5, Try.results5, anW55, dCnf])
      | (refine callP_wk (h5) ?_ ?_; (· (simp; done)); try simp [hnt, Try.ntmps5, Try.results5, anW55, dCnf])
      | (refine ⟨?_, ?_⟩; · omega)
      | omega
      | apply_assumption -exfalso -symm
      | (exfalso; omega)))
end Go.Proofs.Ytihkcegelghcpaa
end

section
/- A part of a proof: walks over the functions that it names; their contracts hold for every argument. -/

set_option linter.unusedSimpArgs false
set_option linter.unusedVariables false
namespace Go.Proofs.Ytihkcegelghcpaa
open Go Go.Dm
attribute [local irreducible] DW callP callS
set_option maxRecDepth 100000

def anW624 : Ann := ⟨[], []⟩
theorem sameBools1_pure : DPure Try.prog 24 [.sl 1 1 [[.bool true]], .sl 1 1 [[.bool true]]] (.bool true) := by
  refine DPure_introF [] (fn := Try.f24) Try.func24 rfl Try.call24 (by simp [Try.ntmps24]) (by simp [mx]) ?_
  intro hwf B hnt
  simp only [argS]
  (repeat (first
      | (refine DW_seq fun K hK => ?_)
      | (refine DW_r anW624 Try.mixed (by kernel_rfl) ?_; simp [hnt, Try.ntmps24, Try.results24, anW624]; try simp (disch := omega) only [wrap64_in])
      | (refine DW_block ?_)
      | (focus (refine DW_if ?_ ?_ ?_; (· (simp [hnt, Try.ntmps24, Try.results24, anW624]; done)); (try (rotate_left; (· (intro hc; (try simp [hnt, Try.ntmps24, Try.results24, anW624] at hc); done))))))
      | (refine DW_ret ?_; simp [hnt, Try.ntmps24, Try.results24, anW624])
      | (refine DW_exit ?_; simp [hnt, Try.ntmps24, Try.results24, anW624])
      | (refine DW_skip ?_; simp [hnt, Try.ntmps24, Try.results24, anW624])
      | (intro hc; (try simp [hnt, Try.ntmps24, Try.results24, anW624] at hc); done)
      | (intro hc; (try simp [hnt, Try.ntmps24, Try.results24, anW624] at hc); (first | (exfalso; omega) | skip))
      | (refine ⟨?_, ?_⟩; · omega)
      | omega
      | apply_assumption -exfalso -symm
      | (exfalso; omega)))
  refine DW_loop (X := {k : Nat // k ≤ 1}) (fun k => ⟨[(0, .sl 1 1 [[.bool true]]), (1, .sl 1 1 [[.bool true]]), (5, .int .i64 k.1)], []⟩) (fun k => 1 - k.1) ⟨0, by simp⟩ (Sub.lit (by simp)) ?_
  rintro ⟨k, hk⟩
  match k, hk with
  | 0, _ =>
    (repeat (first
        | (refine DW_seq fun K hK => ?_)
        | (refine DW_r anW624 Try.mixed (by kernel_rfl) ?_; simp [hnt, Try.ntmps24, Try.results24, anW624]; try simp (disch := omega) only [wrap64_in])
        | (refine DW_block ?_)
        | (focus (refine DW_if ?_ ?_ ?_; (· (simp [hnt, Try.ntmps24, Try.results24, anW624]; done)); (try (rotate_left; (· (intro hc; (try simp [hnt, Try.ntmps24, Try.results24, anW624] at hc); done))))))
        | (refine DW_ret ?_; simp [hnt, Try.ntmps24, Try.results24, anW624])
        | (refine DW_exit ?_; simp [hnt, Try.ntmps24, Try.results24, anW624])
        | (refine DW_skip ?_; simp [hnt, Try.ntmps24, Try.results24, anW624])
        | (intro hc; (try simp [hnt, Try.ntmps24, Try.results24, anW624] at hc); done)
        | (intro hc; (try simp [hnt, Try.ntmps24, Try.results24, anW624] at hc); (first | (exfalso; omega) | skip))
        | (refine ⟨?_, ?_⟩; · omega)
        | omega
        | apply_assumption -exfalso -symm
        | (exfalso; omega)))
    refine Again.mk ⟨1, by omega⟩ (Sub.lit (by simp)) (by simp)
    (repeat (first
        | (refine DW_seq fun K hK => ?_)
        | (refine DW_r anW624 Try.mixed (by kernel_rfl) ?_; simp [hnt, Try.ntmps24, Try.results24, anW624]; try simp (disch := omega) only [wrap64_in])
        | (refine DW_block ?_)
        | (focus (refine DW_if ?_ ?_ ?_; (· (simp [hnt, Try.ntmps24, Try.results24, anW624]; done)); (try (rotate_left; (· (intro hc; (try simp [hnt, Try.ntmps24, Try.results24, anW624] at hc); done))))))
        | (refine DW_ret ?_; simp [hnt, Try.ntmps24, Try.results24, anW624])
        | (refine DW_exit ?_; simp [hnt, Try.ntmps24, Try.results24, anW624])
        | (refine DW_skip ?_; simp [hnt, Try.ntmps24, Try.results24, anW624])
        | (intro hc; (try simp [hnt, Try.ntmps24, Try.results24, anW624] at hc); done)
        | (intro hc; (try simp [hnt, Try.ntmps24, Try.results24, anW624] at hc); (first | (exfalso; omega) | skip))
        | (refine ⟨?_, ?_⟩; · omega)
        | omega
        | apply_assumption -exfalso -symm
        | (exfalso; omega)))
  | 1, _ =>
    (repeat (first
        | (refine DW_seq fun K hK => ?_)
        | (refine DW_r anW624 Try.mixed (by kernel_rfl) ?_; simp [hnt, Try.ntmps24, Try.results24, anW624]; try simp (disch := omega) only [wrap64_in])
        | (refine DW_block ?_)
        | (focus (refine DW_if ?_ ?_ ?_; (· (simp [hnt, Try.ntmps24, Try.results24, anW624]; done)); (try (rotate_left; (· (intro hc; (try simp [hnt, Try.ntmps24, Try.results24, anW624] at hc); done))))))
        | (refine DW_ret ?_; simp [hnt, Try.ntmps24, Try.results24, anW624])
        | (refine DW_exit ?_; simp [hnt, Try.ntmps24, Try.results24, anW624])
        | (refine DW_skip ?_; simp [hnt, Try.ntmps24, Try.results24, anW624])
        | (intro hc; (try simp [hnt, Try.ntmps24, Try.results24, anW624] at hc); done)
        | (intro hc; (try simp [hnt, Try.ntmps24, Try.results24, anW624] at hc); (first | (exfalso; omega) | skip))
        | (refine ⟨?_, ?_⟩; · omega)
        | omega
        | apply_assumption -exfalso -symm
        | (exfalso; omega)))

theorem weak_of {x : Cnf} (h : cnfOK x = true) (hw : ∀ p ∈ x.prods, formOf p.body ≠ 0) : cnfWeak x = true := by
  unfold cnfWeak
  rw [h]
  simp only [Bool.true_and, Bool.not_eq_true', List.any_eq_false, isOther, beq_iff_eq]
  exact hw

def anW66 : Ann := ⟨[], [⟨1, [3], [], []⟩, ⟨6, [5], [], []⟩]⟩
set_option maxHeartbeats 2000000 in
theorem wcnfAgain_pure (c : Cnf) (hsz : c.prods.length * 32 ≤ 140737488355328) : DPure Try.prog 6 [.agg (dCnf c)] (.bool true) := by
  refine DPure_introF [] (fn := Try.f6) Try.func6 rfl Try.call6 (by simp [Try.ntmps6]) (by simp [mx]) ?_
  intro hwf B hnt
  simp only [argS]
  have h1 := copy_pure c
  have h2 := of21_pure c (big_of hsz)
  have h3 := head14_pure
  rcases ofC_again c with ⟨x, e1, e2, e3, e4⟩ | ⟨e, e0, e1⟩
  · have hl := ofC_len e1
    have h4 := of21_pure x (by omega)
    rw [e1] at h2
    rw [e4] at h4
    have h5 := same23_pure x x
    simp only [decide_true] at h5
    have h6 := is_pure x
    rw [weak_of e2 e3] at h6
    have h7 := sameBools1_pure
    simp only at h2 h4
    (repeat (first
        | (refine DW_seq fun K hK => ?_)
        | (refine DW_r anW66 Try.mixed (by kernel_rfl) ?_; simp [hnt, Try.ntmps6, Try.results6, anW66, dCnf]; try simp (disch := omega) only [wrap64_in])
        | (refine DW_block ?_)
        | (focus (refine DW_if ?_ ?_ ?_; (· (simp [hnt, Try.ntmps6, Try.results6, anW66, dCnf]; done)); (try (rotate_left; (· (intro hc; (try simp [hnt, Try.ntmps6, Try.results6, anW66, dCnf] at hc); done))))))
        | (refine DW_ret ?_; simp [hnt, Try.ntmps6, Try.results6, anW66, dCnf])
        | (refine DW_exit ?_; simp [hnt, Try.ntmps6, Try.results6, anW66, dCnf])
        | (refine DW_skip ?_; simp [hnt, Try.ntmps6, Try.results6, anW66, dCnf])
        | (intro hc; (try simp [hnt, Try.ntmps6, Try.results6, anW66, dCnf] at hc); done)
        | (intro hc; (try simp [hnt, Try.ntmps6, Try.results6, anW66, dCnf] at hc); (first | (exfalso; omega) | skip))
        | (refine callP_mk (h1) ?_; try simp [hnt, Try.ntmps6, Try.results6, anW66, dCnf])
        | (refine callP_wk (h1) ?_ ?_; (· (simp; done)); try simp [hnt, Try.ntmps6, Try.results6, anW66, dCnf])
        | (refine callP_mk (h2) ?_; try simp [hnt, Try.ntmps6, Try.results6, anW66, dCnf])
        | (refine callP_wk (h2) ?_ ?_; (· (simp; done)); try simp [hnt, Try.ntmps6, Try.results6, anW66, dCnf])
        | (refine callP_mk (h3) ?_; try simp [hnt, Try.ntmps6, Try.results6, anW66, dCnf])
        | (refine callP_wk (h3) ?_ ?_; (· (simp; done)); try simp [hnt, Try.ntmps6, Try.results6, anW66, dCnf])
        | (refine callP_mk (h4) ?_; try simp [hnt, Try.ntmps6, Try.results6, anW66, dCnf])
        | (refine callP_wk (h4) ?_ ?_; (· (simp; done)); try simp [hnt, Try.ntmps6, Try.results6, anW66, dCnf])
        | (refine callP_mk (h5) ?_; try simp [hnt, Try.ntmps6, Try.results6, anW66, dCnf])
        | (refine callP_wk (h5) ?_ ?_; (· (simp; done)); try simp [hnt, Try.ntmps6, Try.results6, anW66, dCnf])
        | (refine callP_mk (h6) ?_; try simp [hnt, Try.ntmps6, Try.results6, anW66, dCnf])
        | (refine callP_wk (h6) ?_ ?_; (· (simp; done)); try simp [hnt, Try.ntmps6, Try.results6, anW66, dCnf])
        | (refine callP_mk (h7) ?_; try simp [hnt, Try.ntmps6, Try.results6, anW66, dCnf])
        | (refine callP_wk (h7) ?_ ?_; (· (simp; done)); try simp [hnt, Try.ntmps6, Try.results6, anW66, dCnf])
        | (refine ⟨?_, ?_⟩; · omega)
        | omega
        | apply_assumption -exfalso -symm
        | (exfalso; omega)))
  · rw [e1] at h2
    simp only at h2
    have e0' : (e != 0) = true := by simpa using e0
    (repeat (first
        | (refine DW_seq fun K hK => ?_)
        | (refine DW_r anW66 Try.mixed (by kernel_rfl) ?_; simp [hnt, Try.ntmps6, Try.results6, anW66, dCnf, e0, e0']; try simp (disch := omega) only [wrap64_in])
        | (refine DW_block ?_)
        | (focus (refine DW_if ?_ ?_ ?_; (· (simp [hnt, Try.ntmps6, Try.results6, anW66, dCnf, e0, e0']; done)); (try (rotate_left; (· (intro hc; (try simp [hnt, Try.ntmps6, Try.results6, anW66, dCnf, e0, e0'] at hc); done))))))
        | (refine DW_ret ?_; simp [hnt, Try.ntmps6, Try.results6, anW66, dCnf, e0, e0'])
        | (refine DW_exit ?_; simp [hnt, Try.ntmps6, Try.results6, anW66, dCnf, e0, e0'])
        | (refine DW_skip ?_; simp [hnt, Try.ntmps6, Try.results6, anW66, dCnf, e0, e0'])
        | (intro hc; (try simp [hnt, Try.ntmps6, Try.results6, anW66, dCnf, e0, e0'] at hc); done)
        | (intro hc; (try simp [hnt, Try.ntmps6, Try.results6, anW66, dCnf, e0, e0'] at hc); (first | (exfalso; omega) | skip))
        | (refine callP_mk (h1) ?_; try simp [hnt, Try.ntmps6, Try.results6, anW66, dCnf, e0, e0'])
        | (refine callP_wk (h1) ?_ ?_; (· (simp; done)); try simp [hnt, Try.ntmps6, Try.results6, anW66, dCnf, e0, e0'])
        | (refine callP_mk (h2) ?_; try simp [hnt, Try.ntmps6, Try.results6, anW66, dCnf, e0, e0'])
        | (refine callP_wk (h2) ?_ ?_; (· (simp; done)); try simp [hnt, Try.ntmps6, Try.results6, anW66, dCnf, e0, e0'])
        | (refine callP_mk (h3) ?_; try simp [hnt, Try.ntmps6, Try.results6, anW66, dCnf, e0, e0'])
        | (refine callP_wk (h3) ?_ ?_; (· (simp; done)); try simp [hnt, Try.ntmps6, Try.results6, anW66, dCnf, e0, e0'])
        | (refine ⟨?_, ?_⟩; · omega)
        | omega
        | apply_assumption -exfalso -symm
        | (exfalso; omega)))
end Go.Proofs.Ytihkcegelghcpaa
end

section
/- A part of a proof: walks over the functions that it names; their contracts hold for every argument. -/


set_option linter.unusedSimpArgs false
set_option linter.unusedVariables false
namespace Go.Proofs.Ytihkcegelghcpaa
open Go Go.Dm
attribute [local irreducible] DW callP callS
set_option maxRecDepth 100000

theorem ofC_err (c : Cnf) : (∃ x, ofC c = (x, 0) ∧ cnfOK c = true ∧ cnfOK x = true ∧ (∀ p ∈ x.prods, formOf p.body ≠ 0)) ∨ ofC c = (cnf0, 220) ∨ ofC c = (cnf0, 240) := by
  rw [ofC_eq]
  split
  · rename_i h
    cases hA : (Mk.start c).adds c.prods with
    | none => exact .inr (.inr rfl)
    | some m =>
      obtain ⟨g1, g2⟩ := adds_good h hA
      exact .inl ⟨normC m.cnf, rfl, h, by rw [cnfOK_norm]; exact good_ok g1 g2, fun p hp => (g1.ps p ((norm_mem _ p).1 hp)).2.1⟩
  · exact .inr (.inl rfl)

def anW1111 : Ann := ⟨[], [⟨1, [3], [], []⟩]⟩
set_option maxHeartbeats 2000000 in
theorem wcnfKeeps_pure (c : Cnf) (hsz : c.prods.length * 32 ≤ 140737488355328) : DPure Try.prog 11 [.agg (dCnf c)] (.bool true) := by
  refine DPure_introF [] (fn := Try.f11) Try.func11 rfl Try.call11 (by simp [Try.ntmps11]) (by simp [mx]) ?_
  intro hwf B hnt
  simp only [argS]
  have h1 := copy_pure c
  have h2 := of21_pure c (big_of hsz)
  have h3 := head14_pure
  rcases ofC_err c with ⟨x, e1, e0, e2, e3⟩ | e1 | e1
  · have hl := ofC_len e1
    obtain ⟨e4, _⟩ := ofC_der e1
    rw [e1] at h2
    simp only at h2
    have h6 := is_pure x
    rw [weak_of e2 e3] at h6
    have h7 := shortest_pure c e0
    have h8 := shortest_pure x e2
    have c1 := (cnfOK_iff.1 e0).1
    have x1 := (cnfOK_iff.1 e2).1
    have hs : ∀ n : Nat, n < c.nts.toNat → (shortC c)[n]? = (shortC x)[n]? := fun n hn => short_same e1 hn
    obtain ⟨S, hS⟩ : ∃ S, S = shortC c := ⟨_, rfl⟩
    obtain ⟨T, hT⟩ : ∃ T, T = shortC x := ⟨_, rfl⟩
    have hSl : S.length = c.nts.toNat := by rw [hS, shortC_len]
    have hTl : T.length = x.nts.toNat := by rw [hT, shortC_len]
    rw [← hS] at h7 hs
    rw [← hT] at h8 hs
    clear hS hT
    have q1 : ((c.nts.toNat : Nat) : Int) = c.nts := by omega
    have q2 : ((x.nts.toNat : Nat) : Int) = x.nts := by omega
    have q3 : ¬ x.nts < c.nts := by omega
    (repeat (first
        | (refine DW_seq fun K hK => ?_)
        | (refine DW_r anW1111 Try.mixed (by kernel_rfl) ?_; simp [hnt, Try.ntmps11, Try.results11, anW1111, dCnf, hSl, hTl, q1, q2, q3]; try simp (disch := omega) only [wrap64_in])
        | (refine DW_block ?_)
        | (focus (refine DW_if ?_ ?_ ?_; (· (simp [hnt, Try.ntmps11, Try.results11, anW1111, dCnf, hSl, hTl, q1, q2, q3]; done)); (try (rotate_left; (· (intro hc; (try simp [hnt, Try.ntmps11, Try.results11, anW1111, dCnf, hSl, hTl, q1, q2, q3] at hc); done))))))
        | (refine DW_ret ?_; simp [hnt, Try.ntmps11, Try.results11, anW1111, dCnf, hSl, hTl, q1, q2, q3])
        | (refine DW_exit ?_; simp [hnt, Try.ntmps11, Try.results11, anW1111, dCnf, hSl, hTl, q1, q2, q3])
        | (refine DW_skip ?_; simp [hnt, Try.ntmps11, Try.results11, anW1111, dCnf, hSl, hTl, q1, q2, q3])
        | (intro hc; (try simp [hnt, Try.ntmps11, Try.results11, anW1111, dCnf, hSl, hTl, q1, q2, q3] at hc); done)
        | (intro hc; (try simp [hnt, Try.ntmps11, Try.results11, anW1111, dCnf, hSl, hTl, q1, q2, q3] at hc); (first | (exfalso; omega) | skip))
        | (refine callP_mk (h1) ?_; try simp [hnt, Try.ntmps11, Try.results11, anW1111, dCnf, hSl, hTl, q1, q2, q3])
        | (refine callP_wk (h1) ?_ ?_; (· (simp; done)); try simp [hnt, Try.ntmps11, Try.results11, anW1111, dCnf, hSl, hTl, q1, q2, q3])
        | (refine callP_mk (h2) ?_; try simp [hnt, Try.ntmps11, Try.results11, anW1111, dCnf, hSl, hTl, q1, q2, q3])
        | (refine callP_wk (h2) ?_ ?_; (· (simp; done)); try simp [hnt, Try.ntmps11, Try.results11, anW1111, dCnf, hSl, hTl, q1, q2, q3])
        | (refine callP_mk (h3) ?_; try simp [hnt, Try.ntmps11, Try.results11, anW1111, dCnf, hSl, hTl, q1, q2, q3])
        | (refine callP_wk (h3) ?_ ?_; (· (simp; done)); try simp [hnt, Try.ntmps11, Try.results11, anW1111, dCnf, hSl, hTl, q1, q2, q3])
        | (refine callP_mk (h6) ?_; try simp [hnt, Try.ntmps11, Try.results11, anW1111, dCnf, hSl, hTl, q1, q2, q3])
        | (refine callP_wk (h6) ?_ ?_; (· (simp; done)); try simp [hnt, Try.ntmps11, Try.results11, anW1111, dCnf, hSl, hTl, q1, q2, q3])
        | (refine callP_mk (h7) ?_; try simp [hnt, Try.ntmps11, Try.results11, anW1111, dCnf, hSl, hTl, q1, q2, q3])
        | (refine callP_wk (h7) ?_ ?_; (· (simp; done)); try simp [hnt, Try.ntmps11, Try.results11, anW1111, dCnf, hSl, hTl, q1, q2, q3])
        | (refine callP_mk (h8) ?_; try simp [hnt, Try.ntmps11, Try.results11, anW1111, dCnf, hSl, hTl, q1, q2, q3])
        | (refine callP_wk (h8) ?_ ?_; (· (simp; done)); try simp [hnt, Try.ntmps11, Try.results11, anW1111, dCnf, hSl, hTl, q1, q2, q3])
        | (refine ⟨?_, ?_⟩; · omega)
        | omega
        | apply_assumption -exfalso -symm
        | (exfalso; omega)))
    refine DW_loop (X := {k : Nat // k ≤ c.nts.toNat}) (fun k => ⟨[(1, .ref (dCnf c)), (5, .sl 1 8 (S.map dInt1)), (7, .sl 1 8 (T.map dInt1)), (9, .int .i64 k.1)], []⟩) (fun k => c.nts.toNat - k.1) ⟨0, by omega⟩ (Sub.lit (by simp [dCnf])) ?_
    rintro ⟨k, hk⟩
    by_cases hlt : k < c.nts.toNat
    · obtain ⟨u, hu, hu', _⟩ := at_lt' (show k < S.length by omega)
      obtain ⟨v, hv, hv', _⟩ := at_lt' (show k < T.length by omega)
      have huv := hs k hlt
      rw [hu, hv] at huv
      simp only [Option.some.injEq] at huv
      subst huv
      have r1 : (k : Int) < c.nts := by omega
      have r2 : k < S.length := by omega
      have r3 : k < T.length := by omega
      (repeat (first
          | (refine DW_seq fun K hK => ?_)
          | (refine DW_r anW1111 Try.mixed (by kernel_rfl) ?_; simp [hnt, Try.ntmps11, Try.results11, anW1111, dCnf, r1, r2, r3, hu, hu', hv, hv', dInt1]; try simp (disch := omega) only [wrap64_in])
          | (refine DW_block ?_)
          | (focus (refine DW_if ?_ ?_ ?_; (· (simp [hnt, Try.ntmps11, Try.results11, anW1111, dCnf, r1, r2, r3, hu, hu', hv, hv', dInt1]; done)); (try (rotate_left; (· (intro hc; (try simp [hnt, Try.ntmps11, Try.results11, anW1111, dCnf, r1, r2, r3, hu, hu', hv, hv', dInt1] at hc); done))))))
          | (refine DW_ret ?_; simp [hnt, Try.ntmps11, Try.results11, anW1111, dCnf, r1, r2, r3, hu, hu', hv, hv', dInt1])
          | (refine DW_exit ?_; simp [hnt, Try.ntmps11, Try.results11, anW1111, dCnf, r1, r2, r3, hu, hu', hv, hv', dInt1])
          | (refine DW_skip ?_; simp [hnt, Try.ntmps11, Try.results11, anW1111, dCnf, r1, r2, r3, hu, hu', hv, hv', dInt1])
          | (intro hc; (try simp [hnt, Try.ntmps11, Try.results11, anW1111, dCnf, r1, r2, r3, hu, hu', hv, hv', dInt1] at hc); done)
          | (intro hc; (try simp [hnt, Try.ntmps11, Try.results11, anW1111, dCnf, r1, r2, r3, hu, hu', hv, hv', dInt1] at hc); (first | (exfalso; omega) | skip))
          | (refine ⟨?_, ?_⟩; · omega)
          | omega
          | apply_assumption -exfalso -symm
          | (exfalso; omega)))
      refine Again.mk ⟨k + 1, by omega⟩ (Sub.lit (by simp [dCnf])) (by simp; omega)
      (repeat (first
          | (refine DW_seq fun K hK => ?_)
          | (refine DW_r anW1111 Try.mixed (by kernel_rfl) ?_; simp [hnt, Try.ntmps11, Try.results11, anW1111]; try simp (disch := omega) only [wrap64_in])
          | (refine DW_block ?_)
          | (focus (refine DW_if ?_ ?_ ?_; (· (simp [hnt, Try.ntmps11, Try.results11, anW1111]; done)); (try (rotate_left; (· (intro hc; (try simp [hnt, Try.ntmps11, Try.results11, anW1111] at hc); done))))))
          | (refine DW_ret ?_; simp [hnt, Try.ntmps11, Try.results11, anW1111])
          | (refine DW_exit ?_; simp [hnt, Try.ntmps11, Try.results11, anW1111])
          | (refine DW_skip ?_; simp [hnt, Try.ntmps11, Try.results11, anW1111])
          | (intro hc; (try simp [hnt, Try.ntmps11, Try.results11, anW1111] at hc); done)
          | (intro hc; (try simp [hnt, Try.ntmps11, Try.results11, anW1111] at hc); (first | (exfalso; omega) | skip))
          | (refine ⟨?_, ?_⟩; · omega)
          | omega
          | apply_assumption -exfalso -symm
          | (exfalso; omega)))
    · have r1 : ¬ (k : Int) < c.nts := by omega
      (repeat (first
          | (refine DW_seq fun K hK => ?_)
          | (refine DW_r anW1111 Try.mixed (by kernel_rfl) ?_; simp [hnt, Try.ntmps11, Try.results11, anW1111, dCnf, r1]; try simp (disch := omega) only [wrap64_in])
          | (refine DW_block ?_)
          | (focus (refine DW_if ?_ ?_ ?_; (· (simp [hnt, Try.ntmps11, Try.results11, anW1111, dCnf, r1]; done)); (try (rotate_left; (· (intro hc; (try simp [hnt, Try.ntmps11, Try.results11, anW1111, dCnf, r1] at hc); done))))))
          | (refine DW_ret ?_; simp [hnt, Try.ntmps11, Try.results11, anW1111, dCnf, r1])
          | (refine DW_exit ?_; simp [hnt, Try.ntmps11, Try.results11, anW1111, dCnf, r1])
          | (refine DW_skip ?_; simp [hnt, Try.ntmps11, Try.results11, anW1111, dCnf, r1])
          | (intro hc; (try simp [hnt, Try.ntmps11, Try.results11, anW1111, dCnf, r1] at hc); done)
          | (intro hc; (try simp [hnt, Try.ntmps11, Try.results11, anW1111, dCnf, r1] at hc); (first | (exfalso; omega) | skip))
          | (refine ⟨?_, ?_⟩; · omega)
          | omega
          | apply_assumption -exfalso -symm
          | (exfalso; omega)))
  · rw [e1] at h2
    simp only at h2
    (repeat (first
        | (refine DW_seq fun K hK => ?_)
        | (refine DW_r anW1111 Try.mixed (by kernel_rfl) ?_; simp [hnt, Try.ntmps11, Try.results11, anW1111, dCnf]; try simp (disch := omega) only [wrap64_in])
        | (refine DW_block ?_)
        | (focus (refine DW_if ?_ ?_ ?_; (· (simp [hnt, Try.ntmps11, Try.results11, anW1111, dCnf]; done)); (try (rotate_left; (· (intro hc; (try simp [hnt, Try.ntmps11, Try.results11, anW1111, dCnf] at hc); done))))))
        | (refine DW_ret ?_; simp [hnt, Try.ntmps11, Try.results11, anW1111, dCnf])
        | (refine DW_exit ?_; simp [hnt, Try.ntmps11, Try.results11, anW1111, dCnf])
        | (refine DW_skip ?_; simp [hnt, Try.ntmps11, Try.results11, anW1111, dCnf])
        | (intro hc; (try simp [hnt, Try.ntmps11, Try.results11, anW1111, dCnf] at hc); done)
        | (intro hc; (try simp [hnt, Try.ntmps11, Try.results11, anW1111, dCnf] at hc); (first | (exfalso; omega) | skip))
        | (refine callP_mk (h1) ?_; try simp [hnt, Try.ntmps11, Try.results11, anW1111, dCnf])
        | (refine callP_wk (h1) ?_ ?_; (· (simp; done)); try simp [hnt, Try.ntmps11, Try.results11, anW1111, dCnf])
        | (refine callP_mk (h2) ?_; try simp [hnt, Try.ntmps11, Try.results11, anW1111, dCnf])
        | (refine callP_wk (h2) ?_ ?_; (· (simp; done)); try simp [hnt, Try.ntmps11, Try.results11, anW1111, dCnf])
        | (refine callP_mk (h3) ?_; try simp [hnt, Try.ntmps11, Try.results11, anW1111, dCnf])
        | (refine callP_wk (h3) ?_ ?_; (· (simp; done)); try simp [hnt, Try.ntmps11, Try.results11, anW1111, dCnf])
        | (refine ⟨?_, ?_⟩; · omega)
        | omega
        | apply_assumption -exfalso -symm
        | (exfalso; omega)))
  · rw [e1] at h2
    simp only at h2
    (repeat (first
        | (refine DW_seq fun K hK => ?_)
        | (refine DW_r anW1111 Try.mixed (by kernel_rfl) ?_; simp [hnt, Try.ntmps11, Try.results11, anW1111, dCnf]; try simp (disch := omega) only [wrap64_in])
        | (refine DW_block ?_)
        | (focus (refine DW_if ?_ ?_ ?_; (· (simp [hnt, Try.ntmps11, Try.results11, anW1111, dCnf]; done)); (try (rotate_left; (· (intro hc; (try simp [hnt, Try.ntmps11, Try.results11, anW1111, dCnf] at hc); done))))))
        | (refine DW_ret ?_; simp [hnt, Try.ntmps11, Try.results11, anW1111, dCnf])
        | (refine DW_exit ?_; simp [hnt, Try.ntmps11, Try.results11, anW1111, dCnf])
        | (refine DW_skip ?_; simp [hnt, Try.ntmps11, Try.results11, anW1111, dCnf])
        | (intro hc; (try simp [hnt, Try.ntmps11, Try.results11, anW1111, dCnf] at hc); done)
        | (intro hc; (try simp [hnt, Try.ntmps11, Try.results11, anW1111, dCnf] at hc); (first | (exfalso; omega) | skip))
        | (refine callP_mk (h1) ?_; try simp [hnt, Try.ntmps11, Try.results11, anW1111, dCnf])
        | (refine callP_wk (h1) ?_ ?_; (· (simp; done)); try simp [hnt, Try.ntmps11, Try.results11, anW1111, dCnf])
        | (refine callP_mk (h2) ?_; try simp [hnt, Try.ntmps11, Try.results11, anW1111, dCnf])
        | (refine callP_wk (h2) ?_ ?_; (· (simp; done)); try simp [hnt, Try.ntmps11, Try.results11, anW1111, dCnf])
        | (refine callP_mk (h3) ?_; try simp [hnt, Try.ntmps11, Try.results11, anW1111, dCnf])
        | (refine callP_wk (h3) ?_ ?_; (· (simp; done)); try simp [hnt, Try.ntmps11, Try.results11, anW1111, dCnf])
        | (refine ⟨?_, ?_⟩; · omega)
        | omega
        | apply_assumption -exfalso -symm
        | (exfalso; omega)))
end Go.Proofs.Ytihkcegelghcpaa
end

section
/- The data machine, second make, part U: what an argument that came in reads as: the given reading turned into data. -/





set_option linter.unusedSimpArgs false
set_option linter.unusedVariables false
namespace Go.Dm

/-- The shape of a datum. -/
inductive Sh where
  | b
  | i (k : IntKind)
  | s
  | sl (k bs : Nat) (c : List Sh)

mutual
def HasS : Sh → DVal → Prop
  | .b, d => ∃ b, d = .bool b
  | .i k, d => ∃ n, d = .int k n
  | .s, d => ∃ x : ByteArray, d = .str x ∧ x.size ≤ 140737488355328
  | .sl k bs c, d => ∃ es, d = .sl k bs es ∧ es.length * bs ≤ 140737488355328 ∧ ∀ e ∈ es, HasL c e
def HasL : List Sh → List DVal → Prop
  | [], ds => ds = []
  | x :: r, ds => ∃ d t, ds = d :: t ∧ HasS x d ∧ HasL r t
end

theorem HasL_append : ∀ {a b : List Sh} {x y : List DVal}, HasL a x → HasL b y → HasL (a ++ b) (x ++ y)
  | [], b, x, y, h, k => by simp only [HasL] at h; subst h; exact k
  | a :: r, b, x, y, h, k => by
    simp only [HasL] at h
    obtain ⟨d, t, rfl, h1, h2⟩ := h
    simp only [List.cons_append, HasL]
    exact ⟨d, t ++ y, rfl, h1, HasL_append h2 k⟩

def shF (g : TypeId → Option (List Sh)) (cells : TypeId → Nat) : List Field → Nat → Option (List Sh × Nat)
  | [], off => some ([], off)
  | f :: r, off => if f.offset = off then
      (match g f.type, shF g cells r (off + cells f.type) with
      | some c, some (l, e) => some (c ++ l, e)
      | _, _ => none) else none

/-- The shape of a type. -/
def shOf (P : Program) : Nat → TypeId → Option (List Sh)
  | 0, _ => none
  | n + 1, t => match P.underlying t with
    | some .bool => some [.b]
    | some (.int k) => some [.i k]
    | some .string => some [.s]
    | some (.slice e) => if 0 < P.cellsOf e then (shOf P n e).map fun c => [.sl (P.cellsOf e) (P.bytesOf e) c] else none
    | some (.struct fs) => match shF (shOf P n) P.cellsOf fs.toList 0 with
      | some (l, e) => if e = P.cellsOf t then some l else none
      | none => none
    | _ => none

theorem mapM_some {α β : Type} {f : α → Option β} : ∀ {l : List α} {r : List β}, l.mapM f = some r → r.length = l.length ∧ ∀ (i : Nat) (x : α), l[i]? = some x → ∃ y, r[i]? = some y ∧ f x = some y
  | [], r, h => by simp at h; subst h; simp
  | a :: l, r, h => by
    rw [List.mapM_cons] at h
    cases hf : f a with
    | none => rw [hf] at h; simp at h
    | some y =>
      rw [hf] at h
      cases hm : l.mapM f with
      | none => rw [hm] at h; simp at h
      | some r' =>
        rw [hm] at h
        simp at h
        subst h
        obtain ⟨h1, h2⟩ := mapM_some hm
        refine ⟨by simp [h1], fun i x hx => ?_⟩
        cases i with
        | zero => simp only [List.getElem?_cons_zero, Option.some.injEq] at hx; subst hx; exact ⟨y, rfl, hf⟩
        | succ i => simp only [List.getElem?_cons_succ] at hx ⊢; exact h2 i x hx

theorem rdV_len {cur : Cur} {M : List Nat} {h : Array Obj} : ∀ {a : List DVal} {x : List Value}, rdV cur M h a x → a.length = x.length
  | [], x, h1 => by simp only [rdV] at h1; subst h1; rfl
  | d :: a, x, h1 => by
    simp only [rdV] at h1
    obtain ⟨v, r, rfl, h3, h4⟩ := h1
    simp [rdV_len h4]

theorem rdC_of_rdV {cur : Cur} {M : List Nat} {h : Array Obj} {arr : Array Value} : ∀ {a : List DVal} {x : List Value} {o : Nat}, rdV cur M h a x → (∀ v ∈ x, v.oneCell' = true) → (∀ (j : Nat) v, x[j]? = some v → arr[o + j]? = some v) → rdC cur M h a arr o
  | [], x, o, h1, _, _ => by simp [rdC]
  | d :: a, x, o, h1, h2, h3 => by
    simp only [rdV] at h1
    obtain ⟨v, r, rfl, h4, h5⟩ := h1
    simp only [rdC]
    refine ⟨⟨v, by simpa using h3 0 v rfl, h2 v (by simp), h4⟩, rdC_of_rdV h5 (fun u hu => h2 u (by simp [hu])) fun j u hu => ?_⟩
    have := h3 (j + 1) u (by simpa using hu)
    rw [← this]; congr 1; omega

theorem rows_of {cur : Cur} {M : List Nat} {h : Array Obj} {arr : Array Value} {k : Nat} {c : List Sh} : ∀ (len off : Nat), (∀ i, i < len → ∃ ds, ds.length = k ∧ rdC cur M h ds arr (off + i * k) ∧ HasL c ds) →
    ∃ es, es.length = len ∧ rdR cur M h k es arr off ∧ ∀ e ∈ es, HasL c e
  | 0, off, _ => ⟨[], rfl, by simp [rdR], by simp⟩
  | len + 1, off, hh => by
    obtain ⟨ds, h1, h2, h3⟩ := hh 0 (by omega)
    obtain ⟨es, h4, h5, h6⟩ := rows_of len (off + k) (fun i hi => by
      obtain ⟨ds, h1, h2, h3⟩ := hh (i + 1) (by omega)
      refine ⟨ds, h1, ?_, h3⟩
      have : off + k + i * k = off + (i + 1) * k := by rw [Nat.add_mul]; omega
      rw [this]; exact h2)
    refine ⟨ds :: es, by simp [h4], ?_, ?_⟩
    · simp only [rdR]; exact ⟨h1, by simpa using h2, h5⟩
    · intro e he
      rcases List.mem_cons.1 he with rfl | he
      · exact h3
      · exact h6 e he

theorem inR_of_wf {k : IntKind} {n : Int} (h : (Lit.int k n).wf = true) : inR k n := by
  cases k <;> simpa [Lit.wf, IntKind.min, IntKind.max, IntKind.signed, IntKind.bits, inR] using h

theorem shF_mono {g : TypeId → Option (List Sh)} {cells : TypeId → Nat} : ∀ {fs : List Field} {off e : Nat} {l : List Sh}, shF g cells fs off = some (l, e) → off ≤ e
  | [], off, e, l, h => by simp only [shF, Option.some.injEq, Prod.mk.injEq] at h; omega
  | f :: r, off, e, l, h => by
    simp only [shF] at h
    split at h
    · split at h
      · rename_i c l' e' h1 h2
        simp only [Option.some.injEq, Prod.mk.injEq] at h
        have := shF_mono h2
        omega
      · simp at h
    · simp at h

section
variable {H : Type} {enc : TypeId × Value → H} {P : Program} {w : World} {cur : Cur}

def RdArg (P : Program) (cur : Cur) (w : World) (cs : List Value) (shs : List Sh) : Prop :=
  ∃ ds, rdV cur [] w.heap ds cs ∧ (∀ v ∈ cs, v.oneCell' = true) ∧ HasL shs ds

theorem fields_rd {fuel n : Nat} (ih : ∀ {t : TypeId} {cs : List Value} {d : DataW H} {ps : List MemPlace} {shs : List Sh}, DataW.trod enc P w 0 (fun _ => true) true fuel t cs = some (d, ps) → shOf P n t = some shs → (∀ x ∈ d.weights P t, x ≤ 140737488355328) → RdArg P cur w cs shs)
    (cs : List Value) : ∀ (fs : List Field) (off e : Nat) (l : List Sh) (xs : List (DataW H × List MemPlace)),
      fs.mapM (fun f => DataW.trod enc P w 0 (fun _ => true) true fuel f.type ((cs.drop f.offset).take (P.cellsOf f.type))) = some xs → shF (shOf P n) P.cellsOf fs off = some (l, e) →
      (∀ x ∈ DataW.weightsEach P (fs.map (·.type)) (xs.map (·.1)), x ≤ 140737488355328) → RdArg P cur w ((cs.drop off).take (e - off)) l
  | [], off, e, l, xs, h1, h2, h3 => by
    simp only [shF, Option.some.injEq, Prod.mk.injEq] at h2
    obtain ⟨rfl, rfl⟩ := h2
    exact ⟨[], by simp [rdV], by simp, by simp [HasL]⟩
  | f :: fs, off, e, l, xs, h1, h2, h3 => by
    rw [List.mapM_cons] at h1
    simp only [shF] at h2
    split at h2
    · rename_i hoff
      split at h2
      · rename_i c l' e' h4 h5
        simp only [Option.some.injEq, Prod.mk.injEq] at h2
        obtain ⟨rfl, rfl⟩ := h2
        have hm := shF_mono h5
        cases hf : DataW.trod enc P w 0 (fun _ => true) true fuel f.type ((cs.drop f.offset).take (P.cellsOf f.type)) with
        | none => rw [hf] at h1; simp at h1
        | some x =>
          rw [hf] at h1
          cases hr : fs.mapM (fun f => DataW.trod enc P w 0 (fun _ => true) true fuel f.type ((cs.drop f.offset).take (P.cellsOf f.type))) with
          | none => rw [hr] at h1; simp at h1
          | some xr =>
            rw [hr] at h1
            simp at h1
            subst h1
            simp only [List.map_cons, DataW.weightsEach, List.mem_append] at h3
            obtain ⟨d1, a1, a2, a3⟩ := ih hf h4 (fun y hy => h3 y (.inl hy))
            obtain ⟨d2, b1, b2, b3⟩ := fields_rd ih cs fs (off + P.cellsOf f.type) e' l' xr hr h5 (fun y hy => h3 y (.inr hy))
            have hsp : (cs.drop off).take (e' - off) = (cs.drop f.offset).take (P.cellsOf f.type) ++ (cs.drop (off + P.cellsOf f.type)).take (e' - (off + P.cellsOf f.type)) := by
              rw [hoff, ← List.drop_drop, show e' - off = P.cellsOf f.type + (e' - (off + P.cellsOf f.type)) by omega, List.take_add]
            rw [hsp]
            exact ⟨d1 ++ d2, rdV_append _ _ _ _ a1 b1, fun v hv => (List.mem_append.1 hv).elim (a2 v) (b2 v), HasL_append a3 b3⟩
      · simp at h2
    · simp at h2

theorem weightsAll_mem {e : TypeId} : ∀ {l : List (DataW H)} {d : DataW H}, d ∈ l → ∀ x ∈ d.weights P e, x ∈ DataW.weightsAll P e l
  | a :: l, d, hd, x, hx => by
    simp only [DataW.weightsAll, List.mem_append]
    rcases List.mem_cons.1 hd with rfl | hd
    · exact .inl hx
    · exact .inr (weightsAll_mem hd x hx)

theorem cells_get {a : Addr} {n : Nat} {cs : List Value} (h : w.cells? 0 a n = some cs) : cs.length = n ∧ ∀ (j : Nat) v, cs[j]? = some v → w.cell? (a.add j) = some v := by
  unfold World.cells? at h
  rw [if_pos (Nat.zero_le _)] at h
  obtain ⟨h1, h2⟩ := mapM_some h
  rw [List.length_range] at h1
  refine ⟨h1, fun j v hv => ?_⟩
  have hj : j < n := by rw [← h1]; exact (List.getElem?_eq_some_iff.1 hv).1
  obtain ⟨y, hy, hy'⟩ := h2 j j (by rw [List.getElem?_range hj])
  rw [hv] at hy
  rw [hy', hy]

theorem add_none (b o n : Nat) : (⟨b, o, none⟩ : Addr).add n = ⟨b, o + n, none⟩ := by
  unfold Addr.add
  split
  · rename_i h; subst h; rfl
  · rfl

theorem trod_rd : ∀ {fuel n : Nat} {t : TypeId} {cs : List Value} {d : DataW H} {ps : List MemPlace} {shs : List Sh}, DataW.trod enc P w 0 (fun _ => true) true fuel t cs = some (d, ps) → shOf P n t = some shs →
    (∀ x ∈ d.weights P t, x ≤ 140737488355328) → RdArg P cur w cs shs
  | 0, n, t, cs, d, ps, shs, h, hs, hw => by simp [DataW.trod] at h
  | fuel + 1, 0, t, cs, d, ps, shs, h, hs, hw => by simp [shOf] at hs
  | fuel + 1, n + 1, t, cs, d, ps, shs, h, hs, hw => by
    unfold DataW.trod at h
    split at h
    · rename_i b hu
      simp only [shOf, hu, Option.some.injEq] at hs
      subst hs
      exact ⟨[.bool b], by simp [rdV, rd], by simp [Value.oneCell'], by simp [HasL, HasS]⟩
    · rename_i k k' n' hu
      simp only [shOf, hu, Option.some.injEq] at hs
      subst hs
      split at h
      · rename_i hk
        obtain ⟨rfl, hk⟩ := hk
        exact ⟨[.int k' n'], by simp [rdV, rd, inR_of_wf hk], by simp [Value.oneCell'], by simp [HasL, HasS]⟩
      · simp at h
    · rename_i hu; simp [shOf, hu] at hs
    · rename_i x hu
      simp only [shOf, hu, Option.some.injEq] at hs
      subst hs
      split at h
      · rename_i hk
        simp only [Option.some.injEq, Prod.mk.injEq] at h
        obtain ⟨rfl, _⟩ := h
        have hsz := hw x.data.toList.length (by simp [DataW.weights])
        exact ⟨[.str x], by simp [rdV, rd, hk], by simp [Value.oneCell'], by simp only [HasL, HasS]; exact ⟨_, _, rfl, ⟨x, rfl, by rw [Array.length_toList] at hsz; exact hsz⟩, rfl⟩⟩
      · simp at h
    · rename_i hu; simp [shOf, hu] at hs
    · rename_i hu; simp [shOf, hu] at hs
    · rename_i e hu
      simp only [shOf, hu] at hs
      split at hs
      rotate_left
      · simp at hs
      rename_i hk0
      rw [Option.map_eq_some_iff] at hs
      obtain ⟨c, hc, rfl⟩ := hs
      exact ⟨[.sl (P.cellsOf e) (P.bytesOf e) []], by simp only [rdV, rd]; exact ⟨_, _, rfl, ⟨none, 0, rfl, Nat.le_refl _, Nat.zero_le _, by simp, .inl ⟨trivial, fun _ => rfl⟩⟩, rfl⟩, by simp [Value.oneCell'], by simp [HasL, HasS]⟩
    · rename_i e a len cap hu
      simp only [shOf, hu] at hs
      split at hs
      rotate_left
      · simp at hs
      rename_i hk0
      rw [Option.map_eq_some_iff] at hs
      obtain ⟨c, hc, rfl⟩ := hs
      simp only at h
      split at h
      · rename_i hb
        obtain ⟨_, hb1, hb2⟩ := hb
        cases hm : (List.range len).mapM (fun i => (w.cells? 0 (a.add (i * P.cellsOf e)) (P.cellsOf e)).bind (DataW.trod enc P w 0 (fun _ => true) true fuel e)) with
        | none => rw [hm] at h; simp at h
        | some elems =>
          rw [hm] at h
          simp only [Option.bind_some, if_true, Option.map_eq_some_iff] at h
          obtain ⟨rest, hr, h⟩ := h
          simp only [Prod.mk.injEq] at h
          obtain ⟨rfl, rfl⟩ := h
          simp only [DataW.weights, hu, List.mem_cons, List.mem_append, List.length_map] at hw
          obtain ⟨m1, m2⟩ := mapM_some hm
          rw [List.length_range] at m1
          have hsz := hw _ (.inl rfl)
          have hlen : len * P.bytesOf e ≤ 140737488355328 := Nat.le_trans (Nat.mul_le_mul_right _ (by omega)) hsz
          have hel : ∀ i, i < len → ∃ cs ds, w.cells? 0 (a.add (i * P.cellsOf e)) (P.cellsOf e) = some cs ∧ rdV cur [] w.heap ds cs ∧ (∀ v ∈ cs, v.oneCell' = true) ∧ HasL c ds := by
            intro i hi
            obtain ⟨y, hy, hy'⟩ := m2 i i (by rw [List.getElem?_range hi])
            rw [Option.bind_eq_some_iff] at hy'
            obtain ⟨cs, hcs, hy'⟩ := hy'
            obtain ⟨d', p'⟩ := y
            have hmem : d' ∈ elems.map (·.1) := List.mem_map.2 ⟨_, List.mem_of_getElem? hy, rfl⟩
            obtain ⟨ds, b1, b2, b3⟩ := trod_rd hy' hc (fun x hx => hw x (.inr (.inl (weightsAll_mem hmem x hx))))
            exact ⟨cs, ds, hcs, b1, b2, b3⟩
          by_cases h0 : len = 0
          · subst h0
            exact ⟨[.sl (P.cellsOf e) (P.bytesOf e) []], by simp only [rdV, rd]; exact ⟨_, _, rfl, ⟨some a, cap, rfl, Nat.zero_le _, hb2, by simp, .inl ⟨trivial, fun hh => by simp at hh⟩⟩, rfl⟩, by simp [Value.oneCell'], by simp [HasL, HasS]⟩
          · obtain ⟨blk, off, spot⟩ := a
            obtain ⟨cs0, ds0, hcs0, _, _, _⟩ := hel 0 (by omega)
            obtain ⟨l1, l2⟩ := cells_get hcs0
            obtain ⟨v, hv⟩ : ∃ v, cs0[0]? = some v := ⟨_, List.getElem?_eq_getElem (by omega)⟩
            have hc0 : w.cell? ⟨blk, off, spot⟩ = some v := by simpa [Addr.add] using l2 0 v hv
            obtain ⟨arr, ty, fz, hblk, hspot⟩ : ∃ arr ty fz, w.heap[blk]? = some (.cells arr ty fz) ∧ spot = none := by
              simp only [World.cell?] at hc0
              split at hc0
              · rename_i arr ty fz hb
                split at hc0
                · simp at hc0
                · rename_i hsp
                  exact ⟨arr, ty, fz, hb, by simpa using hsp⟩
              · simp at hc0
            subst hspot
            obtain ⟨es, e1, e2, e3⟩ := rows_of (cur := cur) (M := []) (h := w.heap) (arr := arr) (k := P.cellsOf e) (c := c) len off (fun i hi => by
              obtain ⟨cs, ds, hcs, b1, b2, b3⟩ := hel i hi
              obtain ⟨l1, l2⟩ := cells_get hcs
              refine ⟨ds, by rw [rdV_len b1, l1], rdC_of_rdV b1 b2 fun j u hu => ?_, b3⟩
              have := l2 j u hu
              rw [add_none, add_none] at this
              simpa [World.cell?, hblk] using this)
            refine ⟨[.sl (P.cellsOf e) (P.bytesOf e) es], ?_, by simp [Value.oneCell'], by simp only [HasL, HasS]; exact ⟨_, _, rfl, ⟨es, rfl, by rw [e1]; exact hlen, e3⟩, rfl⟩⟩
            simp only [rdV, rd]
            exact ⟨_, _, rfl, ⟨_, _, by rw [e1], by omega, hb2, by rw [e1]; omega, .inr ⟨blk, off, arr, ty, fz, rfl, by simp, hblk, e2⟩⟩, rfl⟩
      · simp at h
    · rename_i fs hu
      simp only [shOf, hu] at hs
      split at hs
      · rename_i l e hf
        split at hs
        · rename_i he
          simp only [Option.some.injEq] at hs
          subst hs
          subst he
          split at h
          · rename_i hlen
            simp only [Option.map_eq_some_iff] at h
            obtain ⟨xs, hxs, h⟩ := h
            simp only [Prod.mk.injEq] at h
            obtain ⟨rfl, rfl⟩ := h
            simp only [DataW.weights, hu] at hw
            have := fields_rd (cur := cur) (fun h1 h2 h3 => trod_rd h1 h2 h3) _ fs.toList 0 (P.cellsOf t) l xs hxs hf hw
            simpa [← hlen] using this
          · simp at h
        · simp at hs
      · simp at hs
    all_goals first | (simp at h; done) | (rename_i hu; simp [shOf, hu] at hs; done)

/-- An argument of a shape that is known: the datum that it reads as. -/
def isAggT (P : Program) (t : TypeId) : Bool := match P.underlying t with | some (.struct _) => true | _ => false
theorem arg_rd {base n : Nat} {t : TypeId} {v : Value} {d : DataW H} {ps : List MemPlace} {shs : List Sh} (hv : Value.okWide P w .any base t v) (h : DataW.Trod enc P w 0 (fun _ => true) true t v d ps) (hs : shOf P n t = some shs)
    (hw : ∀ x ∈ d.weights P t, x ≤ 140737488355328) : ∃ ds, HasL shs ds ∧ if isAggT P t then rd cur [] w.heap (.agg ds) v else rdV cur [] w.heap ds [v] := by
  obtain ⟨fuel, h⟩ := h
  obtain ⟨ds, h1, h2, h3⟩ := trod_rd (cur := cur) h hs hw
  refine ⟨ds, h3, ?_⟩
  unfold isAggT
  split
  · rename_i fs hu
    simp only [if_true]
    simp only [Value.okWide, hu] at hv
    obtain ⟨cs, rfl, _, _⟩ := hv
    simp only [rd]
    exact ⟨cs, rfl, h1⟩
  · rename_i hu
    have hag : v.cells = #[v] := by
      cases n with
      | zero => simp [shOf] at hs
      | succ n =>
        cases v <;> first | rfl | skip
        rename_i cs
        unfold shOf at hs
        unfold Value.okWide at hv
        cases hu' : P.underlying t with
        | none => simp [hu'] at hs
        | some ty =>
          rw [hu'] at hs hv
          cases ty <;> simp [Cell.okWide, Cell.ok, hu'] at hs hv
          exact absurd hu' (hu _)
    rw [hag] at h1
    simpa using h1

/-- All arguments at once. -/
def HasArgs (P : Program) : List TypeId → List (List Sh) → List DVal → Prop
  | [], [], a => a = []
  | t :: ts, x :: xs, a => ∃ ds r, HasL x ds ∧ a = (if isAggT P t then .agg ds else ds.headD .any) :: r ∧ HasArgs P ts xs r
  | _, _, _ => False

theorem args_rd {base n : Nat} : ∀ {ts : List TypeId} {vs : List Value} {ds : List (DataW H)} {ps : List MemPlace} {shs : List (List Sh)}, (∀ (j : Nat) t v, ts[j]? = some t → vs[j]? = some v → Value.okWide P w .any base t v) →
    DataW.TrodAll enc P w 0 (fun _ => true) true ts vs ds ps → ts.map (shOf P n) = shs.map some → (∀ x ∈ DataW.weightsEach P ts ds, x ≤ 140737488355328) → ∃ das, rdV cur [] w.heap das vs ∧ HasArgs P ts shs das
  | [], vs, ds, ps, shs, hv, hA, hs, hw => by
    obtain ⟨rfl, rfl, rfl⟩ := ChangeShapes.trodAll_nil hA
    cases shs with
    | nil => exact ⟨[], by simp [rdV], by simp [HasArgs]⟩
    | cons a b => simp at hs
  | t :: ts, vs, ds, ps, shs, hv, hA, hs, hw => by
    obtain ⟨v, vr, d, dr, p, q, rfl, rfl, rfl, h0, hr⟩ := ChangeShapes.trodAll_cons hA
    cases shs with
    | nil => simp at hs
    | cons x xs =>
      simp only [List.map_cons, List.cons.injEq] at hs
      simp only [DataW.weightsEach, List.mem_append] at hw
      obtain ⟨das, a1, a2⟩ := args_rd (fun j t v h1 h2 => hv (j + 1) t v (by simpa using h1) (by simpa using h2)) hr hs.2 (fun y hy => hw y (.inr hy))
      obtain ⟨dd, b1, b2⟩ := arg_rd (cur := cur) (hv 0 t v rfl rfl) h0 hs.1 (fun y hy => hw y (.inl hy))
      refine ⟨(if isAggT P t then .agg dd else dd.headD .any) :: das, ?_, by simp only [HasArgs]; exact ⟨dd, das, b1, rfl, a2⟩⟩
      simp only [rdV]
      refine ⟨v, vr, rfl, ?_, a1⟩
      split
      · rename_i h; rw [if_pos h] at b2; exact b2
      · rename_i h
        rw [if_neg h] at b2
        cases dd with
        | nil => simp [rdV] at b2
        | cons d0 dr =>
          simp only [rdV] at b2
          obtain ⟨u, r, hu, hd0, _⟩ := b2
          simp only [List.cons.injEq] at hu
          rw [hu.1]
          simpa using hd0

theorem Upd.below {a b : World} (h : Upd [] a b) : RowKit.Below a.heap.size a b := ⟨h.os, h.tape, h.output, h.size, fun k hk => h.blk k hk (by simp)⟩

theorem trodAll_stays (hl : laidOutB P = true) {W W' : World} {sp : Nat → Bool} : ∀ {ts : List TypeId} {vs : List Value} {ds : List (DataW H)} {ps : List MemPlace}, (∀ t ∈ ts, P.readableRec t = true ∧ t < P.types.size) →
    DataW.TrodAll enc P W 0 (fun _ => true) true ts vs ds ps → (∀ p ∈ ps, W.sameAt W' p) → (∀ p ∈ ps, sp p.block = true) → DataW.TrodAll enc P W' 0 sp true ts vs ds ps
  | [], vs, ds, ps, ht, hA, h1, h2 => by
    obtain ⟨rfl, rfl, rfl⟩ := ChangeShapes.trodAll_nil hA
    rfl
  | t :: ts, vs, ds, ps, ht, hA, h1, h2 => by
    obtain ⟨v, vr, d, dr, p, q, rfl, rfl, rfl, h0, hr⟩ := ChangeShapes.trodAll_cons hA
    obtain ⟨k1, k2⟩ := ht t (by simp)
    exact ⟨p, q, WideElems.Trod_stays hl k1 k2 h0 (fun x hx => h1 x (by simp [hx])) (fun x hx => h2 x (by simp [hx])), trodAll_stays hl (fun t h => ht t (by simp [h])) hr (fun x hx => h1 x (by simp [hx])) (fun x hx => h2 x (by simp [hx])), rfl⟩

/-- What a law's row asks behind the call, where the law answers true and leaves what it read as it was. -/
theorem law_post {fn : Func} {s : ChangeSpec} {fresh handsOn : Bool} {tb : TypeId} {W W' : World} {args : Array Value} {ds gs : List (DataW H)} {before : List MemPlace} (hl : laidOutB P = true)
    (hall : ∀ t ∈ fn.params.toList, P.readableRec t = true ∧ t < P.types.size) (hr : fn.resultTypes = #[tb]) (hub : P.underlying tb = some .bool) (hvars : s.vars = [])
    (hs : s.fn H (ds ++ gs) = { results := [.lit (.bool true)], args := ds }) (hW : DataW.Whole enc P fn.params.toList s.vars false W args.toList ds gs before) (hu : Upd [] W W') :
    s.post enc P fn false fresh handsOn false W args (.bool true) W' := by
  have hW' := hW
  obtain ⟨p, q, hA, hV, rfl, hfz, hnd⟩ := hW
  have hlt : ∀ x ∈ p, x.block < W.heap.size := fun x hx => hW'.lt x (by simp [hx])
  have hb := hu.below
  refine ⟨ds, gs, p ++ q, [], p, [], hW', ?_, ?_, ?_, hb.frame _, fun h => by cases h⟩
  · rw [hs, hr]
    exact ChangeShapes.trodAll_mk1 (RowKit.shut_bool hub true)
  · rw [hs]
    exact trodAll_stays hl hall hA (fun x hx => hb.same (hlt x hx)) (fun x hx => by simpa using hlt x hx)
  · rw [hs, hvars]
    rfl

theorem law_contract {f : FuncId} {fn : Func} {s : ChangeSpec} {fresh handsOn : Bool} {tb : TypeId} {W : World} {args : Array Value} {das : List DVal} {ds gs : List (DataW H)} {before : List MemPlace} (hl : laidOutB P = true)
    (hall : ∀ t ∈ fn.params.toList, P.readableRec t = true ∧ t < P.types.size) (hr : fn.resultTypes = #[tb]) (hub : P.underlying tb = some .bool) (hvars : s.vars = [])
    (hs : s.fn H (ds ++ gs) = { results := [.lit (.bool true)], args := ds }) (hW : DataW.Whole enc P fn.params.toList s.vars false W args.toList ds gs before)
    (hrd : rdV (fun _ _ => none) [] W.heap das args.toList) (hd : DPure P f das (.bool true)) :
    Calls P f args W fun e W' => ∃ v, e = .returned v ∧ s.post enc P fn false fresh handsOn false W args v W' := by
  refine (hd.2.2 _ [] W args (by simp) hrd).mono fun e W' ⟨v, he, hu, hv⟩ => ⟨.bool true, ?_, law_post hl hall hr hub hvars hs hW hu⟩
  simp only [rd] at hv
  rw [he, hv]
end

/-- A list of rows of one form. -/
theorem rows_form {α : Type} {f : α → List DVal} : ∀ {es : List (List DVal)}, (∀ e ∈ es, ∃ x, e = f x) → ∃ l : List α, es = l.map f
  | [], _ => ⟨[], rfl⟩
  | e :: es, h => by
    obtain ⟨x, rfl⟩ := h e (by simp)
    obtain ⟨l, rfl⟩ := rows_form (es := es) (f := f) (fun e he => h e (by simp [he]))
    exact ⟨x :: l, rfl⟩
end Go.Dm
end

section
/- What the statements share: shapes of the argument types. -/



set_option linter.unusedSimpArgs false
set_option linter.unusedVariables false
namespace Go.Proofs.Ytihkcegelghcpaa
open Go Go.Dm
open Go.ChangeShapes Go.WideShapes Go.ChangeAt Go.RowKit

theorem own : ownKnob Try.prog.godebug = none := by kernel_rfl
theorem laidOut : laidOutB Try.prog = true := by kernel_rfl

def shSym : List Sh := [.b, .i .i64]
def shProd : List Sh := [.i .i64, .sl 2 16 shSym]
def shCnf : List Sh := [.i .i64, .sl 2 32 shProd]
theorem has_sym {ds : List DVal} (h : HasL shSym ds) : ∃ s : Sym, ds = dSym s := by
  simp only [shSym, HasL, HasS] at h
  obtain ⟨_, _, rfl, ⟨b, rfl⟩, _, _, rfl, ⟨n, rfl⟩, rfl⟩ := h
  exact ⟨⟨b, n⟩, rfl⟩
theorem has_prod {ds : List DVal} (h : HasL shProd ds) : ∃ p : Prod, ds = dProd p := by
  simp only [shProd, HasL, HasS] at h
  obtain ⟨_, _, rfl, ⟨n, rfl⟩, _, _, rfl, ⟨es, rfl, hz, he⟩, rfl⟩ := h
  obtain ⟨l, rfl⟩ := rows_form (fun e h => has_sym (he e h))
  exact ⟨⟨n, l⟩, rfl⟩
theorem has_cnf2 {ds : List DVal} (h : HasL shCnf ds) : ∃ c : Cnf, ds = dCnf c ∧ c.prods.length * 32 ≤ 140737488355328 := by
  simp only [shCnf, HasL, HasS] at h
  obtain ⟨_, _, rfl, ⟨n, rfl⟩, _, _, rfl, ⟨es, rfl, hz, he⟩, rfl⟩ := h
  obtain ⟨l, rfl⟩ := rows_form (fun e h => has_prod (he e h))
  exact ⟨⟨n, l⟩, rfl, by simpa using hz⟩
theorem has_cnf {ds : List DVal} (h : HasL shCnf ds) : ∃ c : Cnf, ds = dCnf c := by
  obtain ⟨c, h1, _⟩ := has_cnf2 h
  exact ⟨c, h1⟩

theorem reach_le {l : List Nat} (h : l.all (· ≤ reachBytes) = true) : ∀ x ∈ l, x ≤ 140737488355328 := fun x hx => by
  have := List.all_eq_true.1 h x hx
  have h2 := reachBytes_lt
  simp only [decide_eq_true_eq] at this
  omega

theorem has_int {k : IntKind} {ds : List DVal} (h : HasL [.i k] ds) : ∃ n : Int, ds = [.int k n] := by
  simp only [HasL, HasS] at h
  obtain ⟨_, _, rfl, ⟨n, rfl⟩, rfl⟩ := h
  exact ⟨n, rfl⟩
theorem has_bool {ds : List DVal} (h : HasL [.b] ds) : ∃ b : Bool, ds = [.bool b] := by
  simp only [HasL, HasS] at h
  obtain ⟨_, _, rfl, ⟨n, rfl⟩, rfl⟩ := h
  exact ⟨n, rfl⟩
end Go.Proofs.Ytihkcegelghcpaa
end

