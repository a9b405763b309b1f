/- Parts of a proof, laid together: W89, W91, W50, W21, W93, EnZ, W52, WG. -/
import Derived.Test.YtihkcegelghcpaaqWk6
import Derived.Test.YtihkcegelghcpaaqWk7
import Derived.Test.YtihkcegelghcpaaqWk8
section
/- A part of a proof: walks over the functions that it names; their contracts hold for every argument. -/

set_option linter.unusedSimpArgs false
set_option linter.unusedVariables false
namespace Go.Proofs.Ytihkcegelghcpaa
open Go Go.Dm
attribute [local irreducible] DW callP callS
set_option maxRecDepth 100000

theorem look_some {l : List (Int × Int)} {a h : Int} : lookA l a = some h → ∃ j, lookI (l.map dKey) (.int .i64 a) = some j ∧ (l.map dHelp).getD j .any = .int .i64 h := by
  induction l with
  | nil => simp [lookA]
  | cons p l ih =>
    obtain ⟨k, g⟩ := p
    simp only [lookA, List.map_cons, lookI]
    intro hh
    by_cases hk : a = k
    · rw [if_pos hk] at hh
      simp only [Option.some.injEq] at hh
      subst hh; subst hk
      exact ⟨0, by simp [dKey, cellsK, eqCs], by simp [dHelp]⟩
    · rw [if_neg hk] at hh
      obtain ⟨j, h1, h2⟩ := ih hh
      exact ⟨j + 1, by simp [dKey, cellsK, eqCs, hk, h1], by simpa using h2⟩
theorem look_none {l : List (Int × Int)} {a : Int} : lookA l a = none → lookI (l.map dKey) (.int .i64 a) = none := by
  induction l with
  | nil => simp [lookI]
  | cons p l ih =>
    obtain ⟨k, g⟩ := p
    simp only [lookA, List.map_cons, lookI]
    intro hh
    by_cases hk : a = k
    · rw [if_pos hk] at hh; simp at hh
    · rw [if_neg hk] at hh
      simp [dKey, cellsK, eqCs, hk, ih hh]
def dInt1 (n : Int) : List DVal := [.int .i64 n]
@[simp] theorem mx_ints (l : List Int) : mxR (l.map dInt1) = 0 := mxR0 _ (fun x => by simp [dInt1, mxL, mx]) l

def anW8989 : Ann := ⟨[34, 46], [⟨4, [7], [], []⟩]⟩
set_option maxHeartbeats 4000000 in
theorem nts_spec (m : Mk) (l : List Sym) (h1 : -9223372036854775808 ≤ m.nts) (h2 : m.nts + l.length + 1 ≤ 9223372036854775807) (h3 : (m.prods.length + l.length + 1) * 32 ≤ 150000000000000) :
    DSpec Try.prog (.func 89) [.bx 0 0 0, dSyms l] (dMk 0 m) (.osl 3 1) (dMk 1 (m.syms l).1 ++ [⟨3, 1, .row 3 1 8 ((m.syms l).2.map dInt1)⟩]) := by
  refine DSpec_intro [] [(0, 0, 0), (1, 1, 1), (2, 2, 0), (50, 3, 1)] (fn := Try.f89) Try.func89 rfl Try.call89 (by simp [Try.ntmps89]) (by simp) (by simp [dMk]) ?_
  intro hwf B hnt
  simp only [argS]
  (repeat (first
      | (refine DW_seq fun K hK => ?_)
      | (refine DW_r anW8989 Try.mixed (by kernel_rfl) ?_; simp [hnt, Try.ntmps89, Try.results89, anW8989, dMk]; try simp (disch := omega) only [wrap64_in])
      | (refine DW_block ?_)
      | (focus (refine DW_if ?_ ?_ ?_; (· (simp [hnt, Try.ntmps89, Try.results89, anW8989, dMk]; done)); (try (rotate_left; (· (intro hc; (try simp [hnt, Try.ntmps89, Try.results89, anW8989, dMk] at hc); done))))))
      | (refine DW_ret ?_; simp [hnt, Try.ntmps89, Try.results89, anW8989, dMk])
      | (refine DW_exit ?_; simp [hnt, Try.ntmps89, Try.results89, anW8989, dMk])
      | (refine DW_skip ?_; simp [hnt, Try.ntmps89, Try.results89, anW8989, dMk])
      | (intro hc; (try simp [hnt, Try.ntmps89, Try.results89, anW8989, dMk] at hc); done)
      | (intro hc; (try simp [hnt, Try.ntmps89, Try.results89, anW8989, dMk] at hc); (first | (exfalso; omega) | skip))
      | (refine ⟨?_, ?_⟩; · omega)
      | omega
      | apply_assumption -exfalso -symm
      | (exfalso; omega)))
  refine DW_adoptS 5 50 3 1 8 (by simp [hnt, Try.ntmps89]) (fun n => ?_)
  refine DW_loop (X := {x : Nat × Mk × List Int // x.1 ≤ l.length ∧ ((x.2.1.syms (l.drop x.1)).1, x.2.2 ++ (x.2.1.syms (l.drop x.1)).2) = m.syms l ∧ m.nts ≤ x.2.1.nts ∧ x.2.1.nts ≤ m.nts + x.1 ∧ x.2.1.prods.length ≤ m.prods.length + x.1 ∧ x.2.2.length = x.1})
    (fun x => ⟨[(0, .bx 0 0 0), (5, .osl 50 1), (11, dSyms l), (12, .int .i64 l.length), (13, .int .i64 x.1.1)], dMk 1 x.1.2.1 ++ [⟨50, 1, .row 3 1 8 (x.1.2.2.map dInt1)⟩]⟩) (fun x => l.length - x.1.1) ⟨(0, m, []), by simp⟩ (Sub.lit (by simp [dMk])) ?_
  rintro ⟨⟨k, m1, acc⟩, hk, hR, b1, b2, b3, b4⟩
  simp only at hk hR b1 b2 b3 b4 ⊢
  by_cases hlt : k < l.length
  · obtain ⟨s, hs, hs', hsm⟩ := at_lt' hlt
    rw [List.drop_eq_getElem_cons hlt, hs'] at hR
    simp only [Mk.syms] at hR
    have hz : (acc.length + 1) * 8 ≤ 150000000000000 := by
      have h4 : (m.prods.length + l.length + 1) * 8 ≤ (m.prods.length + l.length + 1) * 32 := Nat.mul_le_mul_left _ (by omega)
      have h5 : (acc.length + 1) * 8 ≤ (m.prods.length + l.length + 1) * 8 := Nat.mul_le_mul_right _ (by omega)
      omega
    have hz2 : acc.length ≤ 9223372036854775806 := by omega
    cases hl : s.label
    · have hsym : m1.sym s = (m1, s.n) := by unfold Mk.sym; simp [hl]
      rw [hsym] at hR
      (repeat (first
          | (refine DW_seq fun K hK => ?_)
          | (refine DW_r anW8989 Try.mixed (by kernel_rfl) ?_; simp [hnt, Try.ntmps89, Try.results89, anW8989, dMk, dSym, hlt, hs', hl, hz, hz2]; try simp (disch := omega) only [wrap64_in])
          | (refine DW_block ?_)
          | (focus (refine DW_if ?_ ?_ ?_; (· (simp [hnt, Try.ntmps89, Try.results89, anW8989, dMk, dSym, hlt, hs', hl, hz, hz2]; done)); (try (rotate_left; (· (intro hc; (try simp [hnt, Try.ntmps89, Try.results89, anW8989, dMk, dSym, hlt, hs', hl, hz, hz2] at hc); done))))))
          | (refine DW_ret ?_; simp [hnt, Try.ntmps89, Try.results89, anW8989, dMk, dSym, hlt, hs', hl, hz, hz2])
          | (refine DW_exit ?_; simp [hnt, Try.ntmps89, Try.results89, anW8989, dMk, dSym, hlt, hs', hl, hz, hz2])
          | (refine DW_skip ?_; simp [hnt, Try.ntmps89, Try.results89, anW8989, dMk, dSym, hlt, hs', hl, hz, hz2])
          | (intro hc; (try simp [hnt, Try.ntmps89, Try.results89, anW8989, dMk, dSym, hlt, hs', hl, hz, hz2] at hc); done)
          | (intro hc; (try simp [hnt, Try.ntmps89, Try.results89, anW8989, dMk, dSym, hlt, hs', hl, hz, hz2] at hc); (first | (exfalso; omega) | skip))
          | (refine ⟨?_, ?_⟩; · omega)
          | omega
          | apply_assumption -exfalso -symm
          | (exfalso; omega)))
      refine Again.mk ⟨(k + 1, m1, acc ++ [s.n]), show k + 1 ≤ l.length ∧ _ ∧ m.nts ≤ m1.nts ∧ m1.nts ≤ m.nts + ((k + 1 : Nat) : Int) ∧ m1.prods.length ≤ m.prods.length + (k + 1) ∧ (acc ++ [s.n]).length = k + 1 from ⟨by omega, by simpa using hR, b1, by omega, by omega, by simp; omega⟩⟩ (Sub.lit (by simp [dMk, dInt1])) (by simp; omega)
      (repeat (first
          | (refine DW_seq fun K hK => ?_)
          | (refine DW_r anW8989 Try.mixed (by kernel_rfl) ?_; simp [hnt, Try.ntmps89, Try.results89, anW8989]; try simp (disch := omega) only [wrap64_in])
          | (refine DW_block ?_)
          | (focus (refine DW_if ?_ ?_ ?_; (· (simp [hnt, Try.ntmps89, Try.results89, anW8989]; done)); (try (rotate_left; (· (intro hc; (try simp [hnt, Try.ntmps89, Try.results89, anW8989] at hc); done))))))
          | (refine DW_ret ?_; simp [hnt, Try.ntmps89, Try.results89, anW8989])
          | (refine DW_exit ?_; simp [hnt, Try.ntmps89, Try.results89, anW8989])
          | (refine DW_skip ?_; simp [hnt, Try.ntmps89, Try.results89, anW8989])
          | (intro hc; (try simp [hnt, Try.ntmps89, Try.results89, anW8989] at hc); done)
          | (intro hc; (try simp [hnt, Try.ntmps89, Try.results89, anW8989] at hc); (first | (exfalso; omega) | skip))
          | (refine ⟨?_, ?_⟩; · omega)
          | omega
          | apply_assumption -exfalso -symm
          | (exfalso; omega)))
    · cases hlk : lookA m1.hs s.n with
      | some h =>
        have hsym : m1.sym s = (m1, h) := by unfold Mk.sym; simp [hl, hlk]
        rw [hsym] at hR
        obtain ⟨j, hj1, hj2⟩ := look_some hlk
        simp only [List.getD_eq_getElem?_getD, List.getElem?_map] at hj2
        (repeat (first
            | (refine DW_seq fun K hK => ?_)
            | (refine DW_r anW8989 Try.mixed (by kernel_rfl) ?_; simp [hnt, Try.ntmps89, Try.results89, anW8989, dMk, dSym, hlt, hs', hl, hz, hz2, hj1, hj2, dKey, ckAll]; try simp (disch := omega) only [wrap64_in])
            | (refine DW_block ?_)
            | (focus (refine DW_if ?_ ?_ ?_; (· (simp [hnt, Try.ntmps89, Try.results89, anW8989, dMk, dSym, hlt, hs', hl, hz, hz2, hj1, hj2, dKey, ckAll]; done)); (try (rotate_left; (· (intro hc; (try simp [hnt, Try.ntmps89, Try.results89, anW8989, dMk, dSym, hlt, hs', hl, hz, hz2, hj1, hj2, dKey, ckAll] at hc); done))))))
            | (refine DW_ret ?_; simp [hnt, Try.ntmps89, Try.results89, anW8989, dMk, dSym, hlt, hs', hl, hz, hz2, hj1, hj2, dKey, ckAll])
            | (refine DW_exit ?_; simp [hnt, Try.ntmps89, Try.results89, anW8989, dMk, dSym, hlt, hs', hl, hz, hz2, hj1, hj2, dKey, ckAll])
            | (refine DW_skip ?_; simp [hnt, Try.ntmps89, Try.results89, anW8989, dMk, dSym, hlt, hs', hl, hz, hz2, hj1, hj2, dKey, ckAll])
            | (intro hc; (try simp [hnt, Try.ntmps89, Try.results89, anW8989, dMk, dSym, hlt, hs', hl, hz, hz2, hj1, hj2, dKey, ckAll] at hc); done)
            | (intro hc; (try simp [hnt, Try.ntmps89, Try.results89, anW8989, dMk, dSym, hlt, hs', hl, hz, hz2, hj1, hj2, dKey, ckAll] at hc); (first | (exfalso; omega) | skip))
            | (refine ⟨?_, ?_⟩; · omega)
            | omega
            | apply_assumption -exfalso -symm
            | (exfalso; omega)))
        refine Again.mk ⟨(k + 1, m1, acc ++ [h]), show k + 1 ≤ l.length ∧ _ ∧ m.nts ≤ m1.nts ∧ m1.nts ≤ m.nts + ((k + 1 : Nat) : Int) ∧ m1.prods.length ≤ m.prods.length + (k + 1) ∧ (acc ++ [h]).length = k + 1 from ⟨by omega, by simpa using hR, b1, by omega, by omega, by simp; omega⟩⟩ (Sub.lit (by simp [dMk, dInt1])) (by simp; omega)
        (repeat (first
            | (refine DW_seq fun K hK => ?_)
            | (refine DW_r anW8989 Try.mixed (by kernel_rfl) ?_; simp [hnt, Try.ntmps89, Try.results89, anW8989]; try simp (disch := omega) only [wrap64_in])
            | (refine DW_block ?_)
            | (focus (refine DW_if ?_ ?_ ?_; (· (simp [hnt, Try.ntmps89, Try.results89, anW8989]; done)); (try (rotate_left; (· (intro hc; (try simp [hnt, Try.ntmps89, Try.results89, anW8989] at hc); done))))))
            | (refine DW_ret ?_; simp [hnt, Try.ntmps89, Try.results89, anW8989])
            | (refine DW_exit ?_; simp [hnt, Try.ntmps89, Try.results89, anW8989])
            | (refine DW_skip ?_; simp [hnt, Try.ntmps89, Try.results89, anW8989])
            | (intro hc; (try simp [hnt, Try.ntmps89, Try.results89, anW8989] at hc); done)
            | (intro hc; (try simp [hnt, Try.ntmps89, Try.results89, anW8989] at hc); (first | (exfalso; omega) | skip))
            | (refine ⟨?_, ?_⟩; · omega)
            | omega
            | apply_assumption -exfalso -symm
            | (exfalso; omega)))
      | none =>
        have hsym : m1.sym s = ({ m1 with nts := m1.nts + 1, hs := m1.hs ++ [(s.n, m1.nts)], prods := m1.prods ++ [⟨m1.nts, [s]⟩] }, m1.nts) := by unfold Mk.sym; simp [hl, hlk]
        rw [hsym] at hR
        have hj := look_none hlk
        have e1 := helper_spec m1 (by omega) (by omega)
        have e2 := put_spec { m1 with nts := m1.nts + 1, hs := m1.hs ++ [(s.n, m1.nts)] } m1.nts [⟨true, s.n⟩] (Nat.le_trans (Nat.mul_le_mul_right 32 (show m1.prods.length + 1 ≤ m.prods.length + l.length + 1 by omega)) h3)
        (repeat (first
            | (refine DW_seq fun K hK => ?_)
            | (refine DW_r anW8989 Try.mixed (by kernel_rfl) ?_; simp [hnt, Try.ntmps89, Try.results89, anW8989, dMk, dSym, hlt, hs', hl, hz, hz2, hj, dKey, dHelp, ckAll]; try simp (disch := omega) only [wrap64_in])
            | (refine DW_block ?_)
            | (focus (refine DW_if ?_ ?_ ?_; (· (simp [hnt, Try.ntmps89, Try.results89, anW8989, dMk, dSym, hlt, hs', hl, hz, hz2, hj, dKey, dHelp, ckAll]; done)); (try (rotate_left; (· (intro hc; (try simp [hnt, Try.ntmps89, Try.results89, anW8989, dMk, dSym, hlt, hs', hl, hz, hz2, hj, dKey, dHelp, ckAll] at hc); done))))))
            | (refine DW_ret ?_; simp [hnt, Try.ntmps89, Try.results89, anW8989, dMk, dSym, hlt, hs', hl, hz, hz2, hj, dKey, dHelp, ckAll])
            | (refine DW_exit ?_; simp [hnt, Try.ntmps89, Try.results89, anW8989, dMk, dSym, hlt, hs', hl, hz, hz2, hj, dKey, dHelp, ckAll])
            | (refine DW_skip ?_; simp [hnt, Try.ntmps89, Try.results89, anW8989, dMk, dSym, hlt, hs', hl, hz, hz2, hj, dKey, dHelp, ckAll])
            | (intro hc; (try simp [hnt, Try.ntmps89, Try.results89, anW8989, dMk, dSym, hlt, hs', hl, hz, hz2, hj, dKey, dHelp, ckAll] at hc); done)
            | (intro hc; (try simp [hnt, Try.ntmps89, Try.results89, anW8989, dMk, dSym, hlt, hs', hl, hz, hz2, hj, dKey, dHelp, ckAll] at hc); (first | (exfalso; omega) | skip))
            | (refine callS_mk [(0,0),(1,1),(2,2)] [] (e1) ?_ ?_; (· (simp [hnt, Try.ntmps89, Try.results89, anW8989, dMk, dSym, hlt, hs', hl, hz, hz2, hj, dKey, dHelp, ckAll]; done)); (intro _; try simp [hnt, Try.ntmps89, Try.results89, anW8989, dMk, dSym, hlt, hs', hl, hz, hz2, hj, dKey, dHelp, ckAll]))
            | (refine callS_mk [(0,0),(1,1),(2,2)] [] (e2) ?_ ?_; (· (simp [hnt, Try.ntmps89, Try.results89, anW8989, dMk, dSym, hlt, hs', hl, hz, hz2, hj, dKey, dHelp, ckAll]; done)); (intro _; try simp [hnt, Try.ntmps89, Try.results89, anW8989, dMk, dSym, hlt, hs', hl, hz, hz2, hj, dKey, dHelp, ckAll]))
            | (refine ⟨?_, ?_⟩; · omega)
            | omega
            | apply_assumption -exfalso -symm
            | (exfalso; omega)))
        refine Again.mk ⟨(k + 1, { m1 with nts := m1.nts + 1, hs := m1.hs ++ [(s.n, m1.nts)], prods := m1.prods ++ [⟨m1.nts, [s]⟩] }, acc ++ [m1.nts]), show k + 1 ≤ l.length ∧ _ ∧ m.nts ≤ m1.nts + 1 ∧ m1.nts + 1 ≤ m.nts + ((k + 1 : Nat) : Int) ∧ (m1.prods ++ [(⟨m1.nts, [s]⟩ : Prod)]).length ≤ m.prods.length + (k + 1) ∧ (acc ++ [m1.nts]).length = k + 1 from ⟨by omega, by simpa using hR, by omega, by omega, by simp; omega, by simp; omega⟩⟩ (Sub.lit (by simp [dMk, dInt1, dProd, dSym, hl, dKey, dHelp])) (by simp; omega)
        (repeat (first
            | (refine DW_seq fun K hK => ?_)
            | (refine DW_r anW8989 Try.mixed (by kernel_rfl) ?_; simp [hnt, Try.ntmps89, Try.results89, anW8989]; try simp (disch := omega) only [wrap64_in])
            | (refine DW_block ?_)
            | (focus (refine DW_if ?_ ?_ ?_; (· (simp [hnt, Try.ntmps89, Try.results89, anW8989]; done)); (try (rotate_left; (· (intro hc; (try simp [hnt, Try.ntmps89, Try.results89, anW8989] at hc); done))))))
            | (refine DW_ret ?_; simp [hnt, Try.ntmps89, Try.results89, anW8989])
            | (refine DW_exit ?_; simp [hnt, Try.ntmps89, Try.results89, anW8989])
            | (refine DW_skip ?_; simp [hnt, Try.ntmps89, Try.results89, anW8989])
            | (intro hc; (try simp [hnt, Try.ntmps89, Try.results89, anW8989] at hc); done)
            | (intro hc; (try simp [hnt, Try.ntmps89, Try.results89, anW8989] at hc); (first | (exfalso; omega) | skip))
            | (refine callS_mk [(0,0),(1,1),(2,2)] [] (e1) ?_ ?_; (· (simp [hnt, Try.ntmps89, Try.results89, anW8989]; done)); (intro _; try simp [hnt, Try.ntmps89, Try.results89, anW8989]))
            | (refine callS_mk [(0,0),(1,1),(2,2)] [] (e2) ?_ ?_; (· (simp [hnt, Try.ntmps89, Try.results89, anW8989]; done)); (intro _; try simp [hnt, Try.ntmps89, Try.results89, anW8989]))
            | (refine ⟨?_, ?_⟩; · omega)
            | omega
            | apply_assumption -exfalso -symm
            | (exfalso; omega)))
  · have hkk : k = l.length := by omega
    subst hkk
    rw [List.drop_length] at hR
    simp only [Mk.syms, List.append_nil] at hR
    (repeat (first
        | (refine DW_seq fun K hK => ?_)
        | (refine DW_r anW8989 Try.mixed (by kernel_rfl) ?_; simp [hnt, Try.ntmps89, Try.results89, anW8989, dMk]; try simp (disch := omega) only [wrap64_in])
        | (refine DW_block ?_)
        | (focus (refine DW_if ?_ ?_ ?_; (· (simp [hnt, Try.ntmps89, Try.results89, anW8989, dMk]; done)); (try (rotate_left; (· (intro hc; (try simp [hnt, Try.ntmps89, Try.results89, anW8989, dMk] at hc); done))))))
        | (refine DW_ret ?_; simp [hnt, Try.ntmps89, Try.results89, anW8989, dMk])
        | (refine DW_exit ?_; simp [hnt, Try.ntmps89, Try.results89, anW8989, dMk])
        | (refine DW_skip ?_; simp [hnt, Try.ntmps89, Try.results89, anW8989, dMk])
        | (intro hc; (try simp [hnt, Try.ntmps89, Try.results89, anW8989, dMk] at hc); done)
        | (intro hc; (try simp [hnt, Try.ntmps89, Try.results89, anW8989, dMk] at hc); (first | (exfalso; omega) | skip))
        | (refine ⟨?_, ?_⟩; · omega)
        | omega
        | apply_assumption -exfalso -symm
        | (exfalso; omega)))
    rw [← hR]
    exact ⟨⟨rfl, rfl⟩, rfl, ⟨rfl, rfl⟩, rfl⟩
end Go.Proofs.Ytihkcegelghcpaa
end

section
/- A part of a proof: walks over the functions that it names; their contracts hold for every argument. -/

set_option linter.unusedSimpArgs false
set_option linter.unusedVariables false
namespace Go.Proofs.Ytihkcegelghcpaa
open Go Go.Dm
attribute [local irreducible] DW callP callS
set_option maxRecDepth 100000

/-- the helpers' numbers, the head ahead of them -/
def tlC (m : Mk) (h : Int) (k : Nat) : List Int := h :: (List.range k).map fun i : Nat => m.nts + (i : Int)
theorem tlC_len (m : Mk) (h : Int) (k : Nat) : (tlC m h k).length = k + 1 := by simp [tlC]
theorem tlC_succ (m : Mk) (h : Int) (k : Nat) : tlC m h (k + 1) = tlC m h k ++ [m.nts + k] := by simp [tlC, List.range_succ]
theorem tlC_at (m : Mk) (h : Int) (k i : Nat) (hi : i < k) : (tlC m h k)[i + 1]? = some (m.nts + i) := by simp [tlC, hi]
theorem drop3 {ns : List Int} {i : Nat} {a b : Int} (hi : i + 2 < ns.length) (ha : ns[i]? = some a) : ∀ nts head, chainP nts head (ns.drop i) = ⟨head, [nS a, nS nts]⟩ :: chainP (nts + 1) nts (ns.drop (i + 1)) := by
  intro nts head
  obtain ⟨h1, rfl⟩ := List.getElem?_eq_some_iff.1 ha
  rw [List.drop_eq_getElem_cons h1, List.drop_eq_getElem_cons (show i + 1 < ns.length by omega), List.drop_eq_getElem_cons (show i + 1 + 1 < ns.length by omega)]
  rfl
theorem drop2 {ns : List Int} {i : Nat} {a b : Int} (hi : i + 2 = ns.length) (ha : ns[i]? = some a) (hb : ns[i + 1]? = some b) : ∀ nts head, chainP nts head (ns.drop i) = [⟨head, [nS a, nS b]⟩] := by
  intro nts head
  obtain ⟨h1, rfl⟩ := List.getElem?_eq_some_iff.1 ha
  obtain ⟨h2, rfl⟩ := List.getElem?_eq_some_iff.1 hb
  rw [List.drop_eq_getElem_cons h1, List.drop_eq_getElem_cons h2, List.drop_of_length_le (by omega)]
  rfl

def anW9191 : Ann := ⟨[12, 22, 52, 71], []⟩
set_option maxHeartbeats 4000000 in
theorem chain_spec (m : Mk) (h : Int) (ns : List Int) (h0 : 2 ≤ ns.length) (h1 : -9223372036854775808 ≤ m.nts) (h2 : m.nts + ns.length ≤ 9223372036854775807) (h3 : (m.prods.length + ns.length + 1) * 32 ≤ 150000000000000) :
    DSpec Try.prog (.func 91) [.bx 0 0 0, .int .i64 h, .sl 1 8 (ns.map dInt1)] (dMk 0 m) (.tup []) (dMk 1 (m.chain h ns)) := by
  refine DSpec_intro [] [(0, 0, 0), (1, 1, 1), (2, 2, 0)] (fn := Try.f91) Try.func91 rfl Try.call91 (by simp [Try.ntmps91]) (by simp) (by simp [dMk]) ?_
  intro hwf B hnt
  simp only [argS]
  obtain ⟨q, hq⟩ : ∃ q, ns.length = q + 2 := ⟨ns.length - 2, by omega⟩
  rw [hq] at h2 h3
  have hw : IntKind.i64.wrap (q : Int) = q := wrap64_in (by omega) (by omega)
  have hq1 : ((q : Int) + 2 - 2) = q := by omega
  (repeat (first
      | (refine DW_seq fun K hK => ?_)
      | (refine DW_r anW9191 Try.mixed (by kernel_rfl) ?_; simp [hnt, Try.ntmps91, Try.results91, anW9191, dMk, hw, hq, hq1]; try simp (disch := omega) only [wrap64_in])
      | (refine DW_block ?_)
      | (focus (refine DW_if ?_ ?_ ?_; (· (simp [hnt, Try.ntmps91, Try.results91, anW9191, dMk, hw, hq, hq1]; done)); (try (rotate_left; (· (intro hc; (try simp [hnt, Try.ntmps91, Try.results91, anW9191, dMk, hw, hq, hq1] at hc); done))))))
      | (refine DW_ret ?_; simp [hnt, Try.ntmps91, Try.results91, anW9191, dMk, hw, hq, hq1])
      | (refine DW_exit ?_; simp [hnt, Try.ntmps91, Try.results91, anW9191, dMk, hw, hq, hq1])
      | (refine DW_skip ?_; simp [hnt, Try.ntmps91, Try.results91, anW9191, dMk, hw, hq, hq1])
      | (intro hc; (try simp [hnt, Try.ntmps91, Try.results91, anW9191, dMk, hw, hq, hq1] at hc); done)
      | (intro hc; (try simp [hnt, Try.ntmps91, Try.results91, anW9191, dMk, hw, hq, hq1] at hc); (first | (exfalso; omega) | skip))
      | (refine ⟨?_, ?_⟩; · omega)
      | omega
      | apply_assumption -exfalso -symm
      | (exfalso; omega)))
  refine DW_loop (X := {k : Nat // k ≤ q}) (fun k => ⟨[(0, .bx 0 0 0), (1, .int .i64 h), (2, .sl 1 8 (ns.map dInt1)), (6, .osl 12 1), (7, .fn (.func 123) [.bx 0 0 0] []), (17, .int .i64 q), (18, .int .i64 k.1)], dMk 1 { m with nts := m.nts + k.1 } ++ [⟨12, 1, .row 3 1 8 ((tlC m h k.1).map dInt1)⟩]⟩)
    (fun k => q - k.1) ⟨0, by omega⟩ (Sub.lit (by simp [dMk, tlC, dInt1])) ?_
  rintro ⟨k, hk⟩
  have hz : (k + 1 + 1) * 8 ≤ 150000000000000 := by
    have h4 : (m.prods.length + (q + 2) + 1) * 8 ≤ (m.prods.length + (q + 2) + 1) * 32 := Nat.mul_le_mul_left _ (by omega)
    have h5 : (k + 1 + 1) * 8 ≤ (m.prods.length + (q + 2) + 1) * 8 := Nat.mul_le_mul_right _ (by omega)
    exact Nat.le_trans h5 (Nat.le_trans h4 h3)
  by_cases hlt : k < q
  · have e1 := helper_spec { m with nts := m.nts + k } (by simp only; omega) (by simp only; omega)
    have hz2 : k + 1 ≤ 9223372036854775806 := by omega
    have htl := tlC_succ m h k
    (repeat (first
        | (refine DW_seq fun K hK => ?_)
        | (refine DW_r anW9191 Try.mixed (by kernel_rfl) ?_; simp [hnt, Try.ntmps91, Try.results91, anW9191, dMk, hlt, hz, hz2, tlC_len]; try simp (disch := omega) only [wrap64_in])
        | (refine DW_block ?_)
        | (focus (refine DW_if ?_ ?_ ?_; (· (simp [hnt, Try.ntmps91, Try.results91, anW9191, dMk, hlt, hz, hz2, tlC_len]; done)); (try (rotate_left; (· (intro hc; (try simp [hnt, Try.ntmps91, Try.results91, anW9191, dMk, hlt, hz, hz2, tlC_len] at hc); done))))))
        | (refine DW_ret ?_; simp [hnt, Try.ntmps91, Try.results91, anW9191, dMk, hlt, hz, hz2, tlC_len])
        | (refine DW_exit ?_; simp [hnt, Try.ntmps91, Try.results91, anW9191, dMk, hlt, hz, hz2, tlC_len])
        | (refine DW_skip ?_; simp [hnt, Try.ntmps91, Try.results91, anW9191, dMk, hlt, hz, hz2, tlC_len])
        | (intro hc; (try simp [hnt, Try.ntmps91, Try.results91, anW9191, dMk, hlt, hz, hz2, tlC_len] at hc); done)
        | (intro hc; (try simp [hnt, Try.ntmps91, Try.results91, anW9191, dMk, hlt, hz, hz2, tlC_len] at hc); (first | (exfalso; omega) | skip))
        | (refine callS_mk [(0,0),(1,1),(2,2)] [] (e1) ?_ ?_; (· (simp [hnt, Try.ntmps91, Try.results91, anW9191, dMk, hlt, hz, hz2, tlC_len]; done)); (intro _; try simp [hnt, Try.ntmps91, Try.results91, anW9191, dMk, hlt, hz, hz2, tlC_len]))
        | (refine ⟨?_, ?_⟩; · omega)
        | omega
        | apply_assumption -exfalso -symm
        | (exfalso; omega)))
    refine Again.mk ⟨k + 1, by omega⟩ (Sub.lit (by simp [dMk, dInt1, htl]; omega)) (by simp; omega)
    (repeat (first
        | (refine DW_seq fun K hK => ?_)
        | (refine DW_r anW9191 Try.mixed (by kernel_rfl) ?_; simp [hnt, Try.ntmps91, Try.results91, anW9191]; try simp (disch := omega) only [wrap64_in])
        | (refine DW_block ?_)
        | (focus (refine DW_if ?_ ?_ ?_; (· (simp [hnt, Try.ntmps91, Try.results91, anW9191]; done)); (try (rotate_left; (· (intro hc; (try simp [hnt, Try.ntmps91, Try.results91, anW9191] at hc); done))))))
        | (refine DW_ret ?_; simp [hnt, Try.ntmps91, Try.results91, anW9191])
        | (refine DW_exit ?_; simp [hnt, Try.ntmps91, Try.results91, anW9191])
        | (refine DW_skip ?_; simp [hnt, Try.ntmps91, Try.results91, anW9191])
        | (intro hc; (try simp [hnt, Try.ntmps91, Try.results91, anW9191] at hc); done)
        | (intro hc; (try simp [hnt, Try.ntmps91, Try.results91, anW9191] at hc); (first | (exfalso; omega) | skip))
        | (refine callS_mk [(0,0),(1,1),(2,2)] [] (e1) ?_ ?_; (· (simp [hnt, Try.ntmps91, Try.results91, anW9191]; done)); (intro _; try simp [hnt, Try.ntmps91, Try.results91, anW9191]))
        | (refine ⟨?_, ?_⟩; · omega)
        | omega
        | apply_assumption -exfalso -symm
        | (exfalso; omega)))
  · have hkk : k = q := by omega
    subst hkk
    clear hlt
    obtain ⟨T, hT⟩ : ∃ T, T = tlC m h k := ⟨_, rfl⟩
    have hTl : T.length = k + 1 := by rw [hT, tlC_len]
    have hT0 : T[0]? = some h := by rw [hT]; rfl
    have hTs : ∀ i, i < k → T[i + 1]? = some (m.nts + i) := fun i hi => by rw [hT]; exact tlC_at m h k i hi
    rw [← hT]
    clear hT
    have hk1 : ((k : Int) + 1 - 1) = k := by omega
    (repeat (first
        | (refine DW_seq fun K hK => ?_)
        | (refine DW_r anW9191 Try.mixed (by kernel_rfl) ?_; simp [hnt, Try.ntmps91, Try.results91, anW9191, dMk, hTl, hk1, hw]; try simp (disch := omega) only [wrap64_in])
        | (refine DW_block ?_)
        | (focus (refine DW_if ?_ ?_ ?_; (· (simp [hnt, Try.ntmps91, Try.results91, anW9191, dMk, hTl, hk1, hw]; done)); (try (rotate_left; (· (intro hc; (try simp [hnt, Try.ntmps91, Try.results91, anW9191, dMk, hTl, hk1, hw] at hc); done))))))
        | (refine DW_ret ?_; simp [hnt, Try.ntmps91, Try.results91, anW9191, dMk, hTl, hk1, hw])
        | (refine DW_exit ?_; simp [hnt, Try.ntmps91, Try.results91, anW9191, dMk, hTl, hk1, hw])
        | (refine DW_skip ?_; simp [hnt, Try.ntmps91, Try.results91, anW9191, dMk, hTl, hk1, hw])
        | (intro hc; (try simp [hnt, Try.ntmps91, Try.results91, anW9191, dMk, hTl, hk1, hw] at hc); done)
        | (intro hc; (try simp [hnt, Try.ntmps91, Try.results91, anW9191, dMk, hTl, hk1, hw] at hc); (first | (exfalso; omega) | skip))
        | (refine ⟨?_, ?_⟩; · omega)
        | omega
        | apply_assumption -exfalso -symm
        | (exfalso; omega)))
    refine DW_loop (X := {x : Nat × List Prod // x.1 ≤ k ∧ x.2.length = m.prods.length + x.1 ∧ ∀ t, T[x.1]? = some t → x.2 ++ chainP (m.nts + x.1) t (ns.drop x.1) = m.prods ++ chainP m.nts h ns})
      (fun x => ⟨[(0, .bx 0 0 0), (1, .int .i64 h), (2, .sl 1 8 (ns.map dInt1)), (6, .osl 12 1), (8, .int .i64 k), (31, .vw 12 1 1 8 0 k), (32, .int .i64 k), (33, .int .i64 x.1.1)], dMk 1 { m with nts := m.nts + k, prods := x.1.2 } ++ [⟨12, 1, .row 3 1 8 (T.map dInt1)⟩]⟩)
      (fun x => k - x.1.1) ⟨(0, m.prods), by simp [hT0]⟩ (Sub.lit (by simp [dMk])) ?_
    rintro ⟨⟨i, P⟩, hi, hP, hR⟩
    simp only at hi hP hR ⊢
    obtain ⟨t, ht, ht', _⟩ := at_lt' (show i < T.length by omega)
    obtain ⟨a, ha, ha', _⟩ := at_lt' (show i < ns.length by omega)
    have hR := hR t ht
    by_cases hlt : i < k
    · have hT1 := hTs i hlt
      have hT1' : T[i + 1]'(by omega) = m.nts + i := (List.getElem?_eq_some_iff.1 hT1).2
      rw [drop3 (b := 0) (by omega) ha] at hR
      have e2 := put_spec { m with nts := m.nts + k, prods := P } t [nS a, nS (m.nts + i)] (Nat.le_trans (Nat.mul_le_mul_right 32 (show P.length + 1 ≤ m.prods.length + (k + 2) + 1 by omega)) h3)
      simp only [nS] at e2
      have hv : k ≤ T.length := by omega
      have htn : ((i : Int) + 1).toNat = i + 1 := by omega
      have hb1 : (0 : Int) ≤ (i : Int) + 1 := by omega
      have hb2 : (i : Int) + 1 < (k : Int) + 1 := by omega
      have hin : i < ns.length := by omega
      have hmp : Option.map ((fun cs => cs) ∘ dInt1) T[((i : Int) + 1).toNat]? = some [.int .i64 (m.nts + i)] := by rw [htn, hT1]; rfl
      have hr2 : (([0, 1] : List Nat) = List.range 2) = True := eq_true rfl
      (repeat (first
          | (refine DW_seq fun K hK => ?_)
          | (refine DW_r anW9191 Try.mixed (by kernel_rfl) ?_; simp [hnt, Try.ntmps91, Try.results91, anW9191, dMk, dSym, dInt1, hlt, ht', ht, ha, ha', hT1, hT1', hTl, hq, hv, htn, hb1, hb2, hmp, hr2]; try simp (disch := omega) only [wrap64_in])
          | (refine DW_block ?_)
          | (focus (refine DW_if ?_ ?_ ?_; (· (simp [hnt, Try.ntmps91, Try.results91, anW9191, dMk, dSym, dInt1, hlt, ht', ht, ha, ha', hT1, hT1', hTl, hq, hv, htn, hb1, hb2, hmp, hr2]; done)); (try (rotate_left; (· (intro hc; (try simp [hnt, Try.ntmps91, Try.results91, anW9191, dMk, dSym, dInt1, hlt, ht', ht, ha, ha', hT1, hT1', hTl, hq, hv, htn, hb1, hb2, hmp, hr2] at hc); done))))))
          | (refine DW_ret ?_; simp [hnt, Try.ntmps91, Try.results91, anW9191, dMk, dSym, dInt1, hlt, ht', ht, ha, ha', hT1, hT1', hTl, hq, hv, htn, hb1, hb2, hmp, hr2])
          | (refine DW_exit ?_; simp [hnt, Try.ntmps91, Try.results91, anW9191, dMk, dSym, dInt1, hlt, ht', ht, ha, ha', hT1, hT1', hTl, hq, hv, htn, hb1, hb2, hmp, hr2])
          | (refine DW_skip ?_; simp [hnt, Try.ntmps91, Try.results91, anW9191, dMk, dSym, dInt1, hlt, ht', ht, ha, ha', hT1, hT1', hTl, hq, hv, htn, hb1, hb2, hmp, hr2])
          | (intro hc; (try simp [hnt, Try.ntmps91, Try.results91, anW9191, dMk, dSym, dInt1, hlt, ht', ht, ha, ha', hT1, hT1', hTl, hq, hv, htn, hb1, hb2, hmp, hr2] at hc); done)
          | (intro hc; (try simp [hnt, Try.ntmps91, Try.results91, anW9191, dMk, dSym, dInt1, hlt, ht', ht, ha, ha', hT1, hT1', hTl, hq, hv, htn, hb1, hb2, hmp, hr2] at hc); (first | (exfalso; omega) | skip))
          | (refine callS_mk [(0,0),(1,1),(2,2)] [] (e2) ?_ ?_; (· (simp [hnt, Try.ntmps91, Try.results91, anW9191, dMk, dSym, dInt1, hlt, ht', ht, ha, ha', hT1, hT1', hTl, hq, hv, htn, hb1, hb2, hmp, hr2]; done)); (intro _; try simp [hnt, Try.ntmps91, Try.results91, anW9191, dMk, dSym, dInt1, hlt, ht', ht, ha, ha', hT1, hT1', hTl, hq, hv, htn, hb1, hb2, hmp, hr2]))
          | (refine ⟨?_, ?_⟩; · omega)
          | omega
          | apply_assumption -exfalso -symm
          | (exfalso; omega)))
      simp only [htn, hT1]
      simp [hnt, Try.ntmps91, Try.results91, anW9191, dMk, dSym, dInt1, hlt, ht', ht, ha, ha', hT1, hT1', hTl, hq, hv, htn, hb1, hb2, hmp, hr2]
      (repeat (first
          | (refine DW_seq fun K hK => ?_)
          | (refine DW_r anW9191 Try.mixed (by kernel_rfl) ?_; simp [hnt, Try.ntmps91, Try.results91, anW9191, dMk, dSym, dInt1, hlt, ht', ht, ha, ha', hT1, hT1', hTl, hq, hv, htn, hb1, hb2, hmp, hr2]; try simp (disch := omega) only [wrap64_in])
          | (refine DW_block ?_)
          | (focus (refine DW_if ?_ ?_ ?_; (· (simp [hnt, Try.ntmps91, Try.results91, anW9191, dMk, dSym, dInt1, hlt, ht', ht, ha, ha', hT1, hT1', hTl, hq, hv, htn, hb1, hb2, hmp, hr2]; done)); (try (rotate_left; (· (intro hc; (try simp [hnt, Try.ntmps91, Try.results91, anW9191, dMk, dSym, dInt1, hlt, ht', ht, ha, ha', hT1, hT1', hTl, hq, hv, htn, hb1, hb2, hmp, hr2] at hc); done))))))
          | (refine DW_ret ?_; simp [hnt, Try.ntmps91, Try.results91, anW9191, dMk, dSym, dInt1, hlt, ht', ht, ha, ha', hT1, hT1', hTl, hq, hv, htn, hb1, hb2, hmp, hr2])
          | (refine DW_exit ?_; simp [hnt, Try.ntmps91, Try.results91, anW9191, dMk, dSym, dInt1, hlt, ht', ht, ha, ha', hT1, hT1', hTl, hq, hv, htn, hb1, hb2, hmp, hr2])
          | (refine DW_skip ?_; simp [hnt, Try.ntmps91, Try.results91, anW9191, dMk, dSym, dInt1, hlt, ht', ht, ha, ha', hT1, hT1', hTl, hq, hv, htn, hb1, hb2, hmp, hr2])
          | (intro hc; (try simp [hnt, Try.ntmps91, Try.results91, anW9191, dMk, dSym, dInt1, hlt, ht', ht, ha, ha', hT1, hT1', hTl, hq, hv, htn, hb1, hb2, hmp, hr2] at hc); done)
          | (intro hc; (try simp [hnt, Try.ntmps91, Try.results91, anW9191, dMk, dSym, dInt1, hlt, ht', ht, ha, ha', hT1, hT1', hTl, hq, hv, htn, hb1, hb2, hmp, hr2] at hc); (first | (exfalso; omega) | skip))
          | (refine callS_mk [(0,0),(1,1),(2,2)] [] (e2) ?_ ?_; (· (simp [hnt, Try.ntmps91, Try.results91, anW9191, dMk, dSym, dInt1, hlt, ht', ht, ha, ha', hT1, hT1', hTl, hq, hv, htn, hb1, hb2, hmp, hr2]; done)); (intro _; try simp [hnt, Try.ntmps91, Try.results91, anW9191, dMk, dSym, dInt1, hlt, ht', ht, ha, ha', hT1, hT1', hTl, hq, hv, htn, hb1, hb2, hmp, hr2]))
          | (refine ⟨?_, ?_⟩; · omega)
          | omega
          | apply_assumption -exfalso -symm
          | (exfalso; omega)))
      refine Again.mk ⟨(i + 1, P ++ [⟨t, [nS a, nS (m.nts + i)]⟩]), show i + 1 ≤ k ∧ (P ++ [(⟨t, [nS a, nS (m.nts + i)]⟩ : Prod)]).length = m.prods.length + (i + 1) ∧ _ from ⟨by omega, by simp; omega, fun t' h' => ?_⟩⟩ (Sub.lit (by simp [dMk, nS])) (by simp; omega)
      · simp only at h' ⊢
        rw [hT1] at h'
        simp only [Option.some.injEq] at h'
        subst h'
        rw [← hR, List.append_assoc, show m.nts + ((i + 1 : Nat) : Int) = m.nts + i + 1 by omega]
        rfl
      (repeat (first
          | (refine DW_seq fun K hK => ?_)
          | (refine DW_r anW9191 Try.mixed (by kernel_rfl) ?_; simp [hnt, Try.ntmps91, Try.results91, anW9191]; try simp (disch := omega) only [wrap64_in])
          | (refine DW_block ?_)
          | (focus (refine DW_if ?_ ?_ ?_; (· (simp [hnt, Try.ntmps91, Try.results91, anW9191]; done)); (try (rotate_left; (· (intro hc; (try simp [hnt, Try.ntmps91, Try.results91, anW9191] at hc); done))))))
          | (refine DW_ret ?_; simp [hnt, Try.ntmps91, Try.results91, anW9191])
          | (refine DW_exit ?_; simp [hnt, Try.ntmps91, Try.results91, anW9191])
          | (refine DW_skip ?_; simp [hnt, Try.ntmps91, Try.results91, anW9191])
          | (intro hc; (try simp [hnt, Try.ntmps91, Try.results91, anW9191] at hc); done)
          | (intro hc; (try simp [hnt, Try.ntmps91, Try.results91, anW9191] at hc); (first | (exfalso; omega) | skip))
          | (refine callS_mk [(0,0),(1,1),(2,2)] [] (e2) ?_ ?_; (· (simp [hnt, Try.ntmps91, Try.results91, anW9191]; done)); (intro _; try simp [hnt, Try.ntmps91, Try.results91, anW9191]))
          | (refine ⟨?_, ?_⟩; · omega)
          | omega
          | apply_assumption -exfalso -symm
          | (exfalso; omega)))
    · have hik : i = k := by omega
      subst hik
      obtain ⟨b, hb, hb', _⟩ := at_lt' (show i + 1 < ns.length by omega)
      rw [drop2 (by omega) ha hb] at hR
      have e2 := put_spec { m with nts := m.nts + i, prods := P } t [nS a, nS b] (Nat.le_trans (Nat.mul_le_mul_right 32 (show P.length + 1 ≤ m.prods.length + (i + 2) + 1 by omega)) h3)
      simp only [nS] at e2
      have htn : ((i : Int) + 1).toNat = i + 1 := by omega
      have hmp : Option.map ((fun cs => cs) ∘ dInt1) ns[((i : Int) + 1).toNat]? = some [.int .i64 b] := by rw [htn, hb]; rfl
      have hr2 : (([0, 1] : List Nat) = List.range 2) = True := eq_true rfl
      (repeat (first
          | (refine DW_seq fun K hK => ?_)
          | (refine DW_r anW9191 Try.mixed (by kernel_rfl) ?_; simp [hnt, Try.ntmps91, Try.results91, anW9191, dMk, dSym, dInt1, ht', ht, ha, ha', hb, hb', hTl, hq, htn, hmp, hr2]; try simp (disch := omega) only [wrap64_in])
          | (refine DW_block ?_)
          | (focus (refine DW_if ?_ ?_ ?_; (· (simp [hnt, Try.ntmps91, Try.results91, anW9191, dMk, dSym, dInt1, ht', ht, ha, ha', hb, hb', hTl, hq, htn, hmp, hr2]; done)); (try (rotate_left; (· (intro hc; (try simp [hnt, Try.ntmps91, Try.results91, anW9191, dMk, dSym, dInt1, ht', ht, ha, ha', hb, hb', hTl, hq, htn, hmp, hr2] at hc); done))))))
          | (refine DW_ret ?_; simp [hnt, Try.ntmps91, Try.results91, anW9191, dMk, dSym, dInt1, ht', ht, ha, ha', hb, hb', hTl, hq, htn, hmp, hr2])
          | (refine DW_exit ?_; simp [hnt, Try.ntmps91, Try.results91, anW9191, dMk, dSym, dInt1, ht', ht, ha, ha', hb, hb', hTl, hq, htn, hmp, hr2])
          | (refine DW_skip ?_; simp [hnt, Try.ntmps91, Try.results91, anW9191, dMk, dSym, dInt1, ht', ht, ha, ha', hb, hb', hTl, hq, htn, hmp, hr2])
          | (intro hc; (try simp [hnt, Try.ntmps91, Try.results91, anW9191, dMk, dSym, dInt1, ht', ht, ha, ha', hb, hb', hTl, hq, htn, hmp, hr2] at hc); done)
          | (intro hc; (try simp [hnt, Try.ntmps91, Try.results91, anW9191, dMk, dSym, dInt1, ht', ht, ha, ha', hb, hb', hTl, hq, htn, hmp, hr2] at hc); (first | (exfalso; omega) | skip))
          | (refine callS_mk [(0,0),(1,1),(2,2)] [] (e2) ?_ ?_; (· (simp [hnt, Try.ntmps91, Try.results91, anW9191, dMk, dSym, dInt1, ht', ht, ha, ha', hb, hb', hTl, hq, htn, hmp, hr2]; done)); (intro _; try simp [hnt, Try.ntmps91, Try.results91, anW9191, dMk, dSym, dInt1, ht', ht, ha, ha', hb, hb', hTl, hq, htn, hmp, hr2]))
          | (refine ⟨?_, ?_⟩; · omega)
          | omega
          | apply_assumption -exfalso -symm
          | (exfalso; omega)))
      simp only [htn, hb]
      simp [hnt, Try.ntmps91, Try.results91, anW9191, dMk, dSym, dInt1, ht', ht, ha, ha', hb, hb', hTl, hq, htn, hmp, hr2]
      (repeat (first
          | (refine DW_seq fun K hK => ?_)
          | (refine DW_r anW9191 Try.mixed (by kernel_rfl) ?_; simp [hnt, Try.ntmps91, Try.results91, anW9191, dMk, dSym, dInt1, ht', ht, ha, ha', hb, hb', hTl, hq, htn, hmp, hr2]; try simp (disch := omega) only [wrap64_in])
          | (refine DW_block ?_)
          | (focus (refine DW_if ?_ ?_ ?_; (· (simp [hnt, Try.ntmps91, Try.results91, anW9191, dMk, dSym, dInt1, ht', ht, ha, ha', hb, hb', hTl, hq, htn, hmp, hr2]; done)); (try (rotate_left; (· (intro hc; (try simp [hnt, Try.ntmps91, Try.results91, anW9191, dMk, dSym, dInt1, ht', ht, ha, ha', hb, hb', hTl, hq, htn, hmp, hr2] at hc); done))))))
          | (refine DW_ret ?_; simp [hnt, Try.ntmps91, Try.results91, anW9191, dMk, dSym, dInt1, ht', ht, ha, ha', hb, hb', hTl, hq, htn, hmp, hr2])
          | (refine DW_exit ?_; simp [hnt, Try.ntmps91, Try.results91, anW9191, dMk, dSym, dInt1, ht', ht, ha, ha', hb, hb', hTl, hq, htn, hmp, hr2])
          | (refine DW_skip ?_; simp [hnt, Try.ntmps91, Try.results91, anW9191, dMk, dSym, dInt1, ht', ht, ha, ha', hb, hb', hTl, hq, htn, hmp, hr2])
          | (intro hc; (try simp [hnt, Try.ntmps91, Try.results91, anW9191, dMk, dSym, dInt1, ht', ht, ha, ha', hb, hb', hTl, hq, htn, hmp, hr2] at hc); done)
          | (intro hc; (try simp [hnt, Try.ntmps91, Try.results91, anW9191, dMk, dSym, dInt1, ht', ht, ha, ha', hb, hb', hTl, hq, htn, hmp, hr2] at hc); (first | (exfalso; omega) | skip))
          | (refine callS_mk [(0,0),(1,1),(2,2)] [] (e2) ?_ ?_; (· (simp [hnt, Try.ntmps91, Try.results91, anW9191, dMk, dSym, dInt1, ht', ht, ha, ha', hb, hb', hTl, hq, htn, hmp, hr2]; done)); (intro _; try simp [hnt, Try.ntmps91, Try.results91, anW9191, dMk, dSym, dInt1, ht', ht, ha, ha', hb, hb', hTl, hq, htn, hmp, hr2]))
          | (refine ⟨?_, ?_⟩; · omega)
          | omega
          | apply_assumption -exfalso -symm
          | (exfalso; omega)))
      have e3 : m.chain h ns = { m with nts := m.nts + i, prods := P ++ [⟨t, [nS a, nS b]⟩] } := by
        unfold Mk.chain
        rw [hR, hq]
        rfl
      rw [e3]
      simp [nS]
end Go.Proofs.Ytihkcegelghcpaa
end

section
/- A part of a proof: walks over the functions that it names; their contracts hold for every argument. -/

set_option linter.unusedSimpArgs false
set_option linter.unusedVariables false
namespace Go.Proofs.Ytihkcegelghcpaa
open Go Go.Dm
attribute [local irreducible] DW callP callS
set_option maxRecDepth 100000

theorem put_mk (m : Mk) (h : Int) (b : List Sym) : m.put h b = { m with prods := m.prods ++ [⟨h, b⟩] } := rfl
theorem mul32 {a b : Nat} (h : a ≤ b) (hb : b * 32 ≤ 150000000000000) : a * 32 ≤ 150000000000000 := Nat.le_trans (Nat.mul_le_mul_right 32 h) hb

def anW5050 : Ann := ⟨[18, 22, 28, 35], []⟩
set_option maxHeartbeats 4000000 in
theorem add_easy (m : Mk) (p : Prod) (hf : formOf p.body = 1 ∨ formOf p.body = 2) (h3 : (m.prods.length + 1) * 32 ≤ 150000000000000) :
    DSpec Try.prog (.func 50) [.bx 0 0 0, .agg (dProd p)] (dMk 0 m) (.tup []) (dMk 1 (m.add p)) := by
  refine DSpec_intro [] [(0, 0, 0), (1, 1, 1), (2, 2, 0)] (fn := Try.f50) Try.func50 rfl Try.call50 (by simp [Try.ntmps50]) (by simp) (by simp [dMk]) ?_
  intro hwf B hnt
  simp only [argS]
  have e1 := of_pure p.body
  have e2 := clone_pure p.body
  have e3 := put_spec m p.head p.body h3
  have e4 : m.add p = m.put p.head p.body := by unfold Mk.add; rw [if_pos hf]
  rw [e4, put_mk]
  rcases hf with hf | hf
  · rw [hf] at e1
    (repeat (first
        | (refine DW_seq fun K hK => ?_)
        | (refine DW_r anW5050 Try.mixed (by kernel_rfl) ?_; simp [hnt, Try.ntmps50, Try.results50, anW5050, dMk, dProd]; try simp (disch := omega) only [wrap64_in])
        | (refine DW_block ?_)
        | (focus (refine DW_if ?_ ?_ ?_; (· (simp [hnt, Try.ntmps50, Try.results50, anW5050, dMk, dProd]; done)); (try (rotate_left; (· (intro hc; (try simp [hnt, Try.ntmps50, Try.results50, anW5050, dMk, dProd] at hc); done))))))
        | (refine DW_ret ?_; simp [hnt, Try.ntmps50, Try.results50, anW5050, dMk, dProd])
        | (refine DW_exit ?_; simp [hnt, Try.ntmps50, Try.results50, anW5050, dMk, dProd])
        | (refine DW_skip ?_; simp [hnt, Try.ntmps50, Try.results50, anW5050, dMk, dProd])
        | (intro hc; (try simp [hnt, Try.ntmps50, Try.results50, anW5050, dMk, dProd] at hc); done)
        | (intro hc; (try simp [hnt, Try.ntmps50, Try.results50, anW5050, dMk, dProd] at hc); (first | (exfalso; omega) | skip))
        | (refine callP_mk (e1) ?_; try simp [hnt, Try.ntmps50, Try.results50, anW5050, dMk, dProd])
        | (refine callP_wk (e1) ?_ ?_; (· (simp; done)); try simp [hnt, Try.ntmps50, Try.results50, anW5050, dMk, dProd])
        | (refine callP_mk (e2) ?_; try simp [hnt, Try.ntmps50, Try.results50, anW5050, dMk, dProd])
        | (refine callP_wk (e2) ?_ ?_; (· (simp; done)); try simp [hnt, Try.ntmps50, Try.results50, anW5050, dMk, dProd])
        | (refine callS_mk [(0,0),(1,1),(2,2)] [] (e3) ?_ ?_; (· (simp [hnt, Try.ntmps50, Try.results50, anW5050, dMk, dProd]; done)); (intro _; try simp [hnt, Try.ntmps50, Try.results50, anW5050, dMk, dProd]))
        | (refine ⟨?_, ?_⟩; · omega)
        | omega
        | apply_assumption -exfalso -symm
        | (exfalso; omega)))
  · rw [hf] at e1
    (repeat (first
        | (refine DW_seq fun K hK => ?_)
        | (refine DW_r anW5050 Try.mixed (by kernel_rfl) ?_; simp [hnt, Try.ntmps50, Try.results50, anW5050, dMk, dProd]; try simp (disch := omega) only [wrap64_in])
        | (refine DW_block ?_)
        | (focus (refine DW_if ?_ ?_ ?_; (· (simp [hnt, Try.ntmps50, Try.results50, anW5050, dMk, dProd]; done)); (try (rotate_left; (· (intro hc; (try simp [hnt, Try.ntmps50, Try.results50, anW5050, dMk, dProd] at hc); done))))))
        | (refine DW_ret ?_; simp [hnt, Try.ntmps50, Try.results50, anW5050, dMk, dProd])
        | (refine DW_exit ?_; simp [hnt, Try.ntmps50, Try.results50, anW5050, dMk, dProd])
        | (refine DW_skip ?_; simp [hnt, Try.ntmps50, Try.results50, anW5050, dMk, dProd])
        | (intro hc; (try simp [hnt, Try.ntmps50, Try.results50, anW5050, dMk, dProd] at hc); done)
        | (intro hc; (try simp [hnt, Try.ntmps50, Try.results50, anW5050, dMk, dProd] at hc); (first | (exfalso; omega) | skip))
        | (refine callP_mk (e1) ?_; try simp [hnt, Try.ntmps50, Try.results50, anW5050, dMk, dProd])
        | (refine callP_wk (e1) ?_ ?_; (· (simp; done)); try simp [hnt, Try.ntmps50, Try.results50, anW5050, dMk, dProd])
        | (refine callP_mk (e2) ?_; try simp [hnt, Try.ntmps50, Try.results50, anW5050, dMk, dProd])
        | (refine callP_wk (e2) ?_ ?_; (· (simp; done)); try simp [hnt, Try.ntmps50, Try.results50, anW5050, dMk, dProd])
        | (refine callS_mk [(0,0),(1,1),(2,2)] [] (e3) ?_ ?_; (· (simp [hnt, Try.ntmps50, Try.results50, anW5050, dMk, dProd]; done)); (intro _; try simp [hnt, Try.ntmps50, Try.results50, anW5050, dMk, dProd]))
        | (refine ⟨?_, ?_⟩; · omega)
        | omega
        | apply_assumption -exfalso -symm
        | (exfalso; omega)))

def anW5050b2 : Ann := ⟨[18, 22, 28, 35], [⟨7, [50], [], []⟩]⟩
set_option maxHeartbeats 4000000 in
theorem add_one (m : Mk) (p : Prod) (hf : ¬ (formOf p.body = 1 ∨ formOf p.body = 2)) (hl : p.body.length = 1) (h1 : -9223372036854775808 ≤ m.nts) (h2 : m.nts + 10 ≤ 9223372036854775807) (h3 : (m.prods.length + 10) * 32 ≤ 150000000000000) :
    DSpec Try.prog (.func 50) [.bx 0 0 0, .agg (dProd p)] (dMk 0 m) (.tup []) (dMk 1 (m.add p)) := by
  refine DSpec_intro [] [(0, 0, 0), (1, 1, 1), (2, 2, 0)] (fn := Try.f50) Try.func50 rfl Try.call50 (by simp [Try.ntmps50]) (by simp) (by simp [dMk]) ?_
  intro hwf B hnt
  simp only [argS]
  have e1 := of_pure p.body
  obtain ⟨g1, g2, g3⟩ := syms_gap p.body m
  obtain ⟨k1, k2, k3⟩ := nothing_gap (m.syms p.body).1
  have hsl := syms_len m p.body
  rw [hl] at hsl
  simp only [Mk.gap] at g1 k1
  have e2 := nts_spec m p.body h1 (by omega) (mul32 (by omega) h3)
  have e3 := nothing_spec (m.syms p.body).1 (by omega) (by omega) (mul32 (by omega) h3)
  have e5 := chain_spec (m.syms p.body).1.nothing p.head ((m.syms p.body).2 ++ [(m.syms p.body).1.nothing.no]) (by simp; omega) (by omega) (by simp; omega) (mul32 (by simp; omega) h3)
  have e4 : m.add p = (m.syms p.body).1.nothing.chain p.head ((m.syms p.body).2 ++ [(m.syms p.body).1.nothing.no]) := by unfold Mk.add; rw [if_neg hf, if_pos hl]
  rw [e4]
  clear g1 g2 g3 k1 k2 k3 e4
  generalize (m.syms p.body).1.nothing.chain p.head ((m.syms p.body).2 ++ [(m.syms p.body).1.nothing.no]) = m3 at e5 ⊢
  generalize hm2 : (m.syms p.body).1.nothing = m2 at e3 e5
  generalize (m.syms p.body).1 = m1 at e2 e3
  generalize (m.syms p.body).2 = ns at e2 e5 hsl
  simp only [List.map_append, List.map_cons, List.map_nil, dInt1] at e5
  generalize hF : formOf p.body = F at hf e1
  have f1 : ¬ F = 1 := fun h => hf (.inl h)
  have f2 : ¬ F = 2 := fun h => hf (.inr h)
  (repeat (first
      | (refine DW_seq fun K hK => ?_)
      | (refine DW_r anW5050b2 Try.mixed (by kernel_rfl) ?_; simp [hnt, Try.ntmps50, Try.results50, anW5050b2, dMk, dProd, hsl, f1, f2, dInt1]; try simp (disch := omega) only [wrap64_in])
      | (refine DW_block ?_)
      | (focus (refine DW_if ?_ ?_ ?_; (· (simp [hnt, Try.ntmps50, Try.results50, anW5050b2, dMk, dProd, hsl, f1, f2, dInt1]; done)); (try (rotate_left; (· (intro hc; (try simp [hnt, Try.ntmps50, Try.results50, anW5050b2, dMk, dProd, hsl, f1, f2, dInt1] at hc); done))))))
      | (refine DW_ret ?_; simp [hnt, Try.ntmps50, Try.results50, anW5050b2, dMk, dProd, hsl, f1, f2, dInt1])
      | (refine DW_exit ?_; simp [hnt, Try.ntmps50, Try.results50, anW5050b2, dMk, dProd, hsl, f1, f2, dInt1])
      | (refine DW_skip ?_; simp [hnt, Try.ntmps50, Try.results50, anW5050b2, dMk, dProd, hsl, f1, f2, dInt1])
      | (intro hc; (try simp [hnt, Try.ntmps50, Try.results50, anW5050b2, dMk, dProd, hsl, f1, f2, dInt1] at hc); done)
      | (intro hc; (try simp [hnt, Try.ntmps50, Try.results50, anW5050b2, dMk, dProd, hsl, f1, f2, dInt1] at hc); (first | (exfalso; omega) | skip))
      | (refine callP_mk (e1) ?_; try simp [hnt, Try.ntmps50, Try.results50, anW5050b2, dMk, dProd, hsl, f1, f2, dInt1])
      | (refine callP_wk (e1) ?_ ?_; (· (simp; done)); try simp [hnt, Try.ntmps50, Try.results50, anW5050b2, dMk, dProd, hsl, f1, f2, dInt1])
      | (refine callS_mk [(0,0),(1,1),(2,2)] [(50,3)] (e2) ?_ ?_; (· (simp [hnt, Try.ntmps50, Try.results50, anW5050b2, dMk, dProd, hsl, f1, f2, dInt1]; done)); (intro _; try simp [hnt, Try.ntmps50, Try.results50, anW5050b2, dMk, dProd, hsl, f1, f2, dInt1]))
      | (refine callS_mk [(0,0),(1,1),(2,2)] [] (e3) ?_ ?_; (· (simp [hnt, Try.ntmps50, Try.results50, anW5050b2, dMk, dProd, hsl, f1, f2, dInt1]; done)); (intro _; try simp [hnt, Try.ntmps50, Try.results50, anW5050b2, dMk, dProd, hsl, f1, f2, dInt1]))
      | (refine callS_mk [(0,0),(1,1),(2,2)] [] (e5) ?_ ?_; (· (simp [hnt, Try.ntmps50, Try.results50, anW5050b2, dMk, dProd, hsl, f1, f2, dInt1]; done)); (intro _; try simp [hnt, Try.ntmps50, Try.results50, anW5050b2, dMk, dProd, hsl, f1, f2, dInt1]))
      | (refine ⟨?_, ?_⟩; · omega)
      | omega
      | apply_assumption -exfalso -symm
      | (exfalso; omega)))

def anW5050b3 : Ann := ⟨[18, 22, 28, 35], [⟨5, [50], [], []⟩]⟩
set_option maxHeartbeats 4000000 in
theorem add_more (m : Mk) (p : Prod) (hf : ¬ (formOf p.body = 1 ∨ formOf p.body = 2)) (hl : ¬ p.body.length = 1) (h1 : -9223372036854775808 ≤ m.nts) (h2 : m.nts + 2 * p.body.length + 10 ≤ 9223372036854775807) (h3 : (m.prods.length + 2 * p.body.length + 10) * 32 ≤ 150000000000000) :
    DSpec Try.prog (.func 50) [.bx 0 0 0, .agg (dProd p)] (dMk 0 m) (.tup []) (dMk 1 (m.add p)) := by
  refine DSpec_intro [] [(0, 0, 0), (1, 1, 1), (2, 2, 0)] (fn := Try.f50) Try.func50 rfl Try.call50 (by simp [Try.ntmps50]) (by simp) (by simp [dMk]) ?_
  intro hwf B hnt
  simp only [argS]
  have e1 := of_pure p.body
  obtain ⟨g1, g2, g3⟩ := syms_gap p.body m
  have hsl := syms_len m p.body
  have hge := form_two (fun h => hf (.inl h)) (fun h => hf (.inr h))
  simp only [Mk.gap] at g1
  have e2 := nts_spec m p.body h1 (by omega) (mul32 (by omega) h3)
  have e5 := chain_spec (m.syms p.body).1 p.head (m.syms p.body).2 (by omega) (by omega) (by omega) (mul32 (by omega) h3)
  have e4 : m.add p = (m.syms p.body).1.chain p.head (m.syms p.body).2 := by unfold Mk.add; rw [if_neg hf, if_neg hl]
  rw [e4]
  have hsl2 : ¬ (m.syms p.body).2.length = 1 := by omega
  clear g1 g2 g3 e4 hsl
  generalize (m.syms p.body).1.chain p.head (m.syms p.body).2 = m3 at e5 ⊢
  generalize (m.syms p.body).1 = m1 at e2 e5
  generalize (m.syms p.body).2 = ns at e2 e5 hsl2
  generalize hF : formOf p.body = F at hf e1
  have f1 : ¬ F = 1 := fun h => hf (.inl h)
  have f2 : ¬ F = 2 := fun h => hf (.inr h)
  have f3 : ¬ (ns.length : Int) = 1 := by omega
  (repeat (first
      | (refine DW_seq fun K hK => ?_)
      | (refine DW_r anW5050b3 Try.mixed (by kernel_rfl) ?_; simp [hnt, Try.ntmps50, Try.results50, anW5050b3, dMk, dProd, hsl2, f1, f2, f3]; try simp (disch := omega) only [wrap64_in])
      | (refine DW_block ?_)
      | (focus (refine DW_if ?_ ?_ ?_; (· (simp [hnt, Try.ntmps50, Try.results50, anW5050b3, dMk, dProd, hsl2, f1, f2, f3]; done)); (try (rotate_left; (· (intro hc; (try simp [hnt, Try.ntmps50, Try.results50, anW5050b3, dMk, dProd, hsl2, f1, f2, f3] at hc); done))))))
      | (refine DW_ret ?_; simp [hnt, Try.ntmps50, Try.results50, anW5050b3, dMk, dProd, hsl2, f1, f2, f3])
      | (refine DW_exit ?_; simp [hnt, Try.ntmps50, Try.results50, anW5050b3, dMk, dProd, hsl2, f1, f2, f3])
      | (refine DW_skip ?_; simp [hnt, Try.ntmps50, Try.results50, anW5050b3, dMk, dProd, hsl2, f1, f2, f3])
      | (intro hc; (try simp [hnt, Try.ntmps50, Try.results50, anW5050b3, dMk, dProd, hsl2, f1, f2, f3] at hc); done)
      | (intro hc; (try simp [hnt, Try.ntmps50, Try.results50, anW5050b3, dMk, dProd, hsl2, f1, f2, f3] at hc); (first | (exfalso; omega) | skip))
      | (refine callP_mk (e1) ?_; try simp [hnt, Try.ntmps50, Try.results50, anW5050b3, dMk, dProd, hsl2, f1, f2, f3])
      | (refine callP_wk (e1) ?_ ?_; (· (simp; done)); try simp [hnt, Try.ntmps50, Try.results50, anW5050b3, dMk, dProd, hsl2, f1, f2, f3])
      | (refine callS_mk [(0,0),(1,1),(2,2)] [(50,3)] (e2) ?_ ?_; (· (simp [hnt, Try.ntmps50, Try.results50, anW5050b3, dMk, dProd, hsl2, f1, f2, f3]; done)); (intro _; try simp [hnt, Try.ntmps50, Try.results50, anW5050b3, dMk, dProd, hsl2, f1, f2, f3]))
      | (refine callS_mk [(0,0),(1,1),(2,2)] [] (e5) ?_ ?_; (· (simp [hnt, Try.ntmps50, Try.results50, anW5050b3, dMk, dProd, hsl2, f1, f2, f3]; done)); (intro _; try simp [hnt, Try.ntmps50, Try.results50, anW5050b3, dMk, dProd, hsl2, f1, f2, f3]))
      | (refine ⟨?_, ?_⟩; · omega)
      | omega
      | apply_assumption -exfalso -symm
      | (exfalso; omega)))

theorem add_spec (m : Mk) (p : Prod) (h1 : -9223372036854775808 ≤ m.nts) (h2 : m.nts + 2 * p.body.length + 10 ≤ 9223372036854775807) (h3 : (m.prods.length + 2 * p.body.length + 10) * 32 ≤ 150000000000000) :
    DSpec Try.prog (.func 50) [.bx 0 0 0, .agg (dProd p)] (dMk 0 m) (.tup []) (dMk 1 (m.add p)) := by
  by_cases hf : formOf p.body = 1 ∨ formOf p.body = 2
  · exact add_easy m p hf (mul32 (by omega) h3)
  · by_cases hl : p.body.length = 1
    · exact add_one m p hf hl h1 (by omega) (mul32 (by omega) h3)
    · exact add_more m p hf hl h1 h2 h3
end Go.Proofs.Ytihkcegelghcpaa
end

section
/- A part of a proof: walks over the functions that it names; their contracts hold for every argument. -/


set_option linter.unusedSimpArgs false
set_option linter.unusedVariables false
namespace Go.Proofs.Ytihkcegelghcpaa
open Go Go.Dm
attribute [local irreducible] DW callP callS
set_option maxRecDepth 100000

def Mk.start (c : Cnf) : Mk := ⟨c.nts, [], [], 0⟩
def Mk.cnf (m : Mk) : Cnf := ⟨m.nts, m.prods⟩
def finC (m : Option Mk) : Cnf × Int := match m with
  | none => (cnf0, 240)
  | some m => (if cnfOK m.cnf then normC m.cnf else cnf0, if cnfOK m.cnf then 0 else 220)
/-- what wcnf.Of answers -/
def ofC (c : Cnf) : Cnf × Int := if cnfOK c then finC ((Mk.start c).adds c.prods) else (cnf0, 220)

def anW2121 : Ann := ⟨[19, 47], [⟨7, [7], [], []⟩]⟩
set_option maxHeartbeats 8000000 in
theorem of21_pure (c : Cnf) (hsz : (c.prods.length + 8000) * 32 ≤ 150000000000000) : DPure Try.prog 21 [.agg (dCnf c)] (.tup [.agg (dCnf (ofC c).1), .int .i64 (ofC c).2]) := by
  have key : ∀ d, d = (if cnfOK c then (match (Mk.start c).adds c.prods with | none => .tup [.agg [.int .i64 0, .nilsl], .int .i64 240] | some m => .tup [.agg (dCnf (if cnfOK m.cnf then normC m.cnf else cnf0)), .int .i64 (if cnfOK m.cnf then 0 else 220)]) else .tup [.agg [.int .i64 0, .nilsl], .int .i64 220]) → DPure Try.prog 21 [.agg (dCnf c)] d := by
    intro d hd
    refine DPure_introF [] (fn := Try.f21) Try.func21 rfl Try.call21 (by simp [Try.ntmps21]) ?_ ?_
    · subst hd
      split
      · split <;> simp [mx, dCnf]
      · simp [mx]
    intro hwf B hnt
    have hw : wCnf c := w_cnf (by simpa [wfL, wfD] using hwf.1)
    obtain ⟨hw1, hw2, hw3, hw4⟩ := hw
    clear hwf
    simp only [argS]
    have h1 := check_pure c
    cases hb : cnfOK c
    · rw [hb] at h1 hd
      simp only [Bool.false_eq_true, if_false] at hd
      subst hd
      (repeat (first
          | (refine DW_seq fun K hK => ?_)
          | (refine DW_r anW2121 Try.mixed (by kernel_rfl) ?_; simp [hnt, Try.ntmps21, Try.results21, anW2121, dCnf]; try simp (disch := omega) only [wrap64_in])
          | (refine DW_block ?_)
          | (focus (refine DW_if ?_ ?_ ?_; (· (simp [hnt, Try.ntmps21, Try.results21, anW2121, dCnf]; done)); (try (rotate_left; (· (intro hc; (try simp [hnt, Try.ntmps21, Try.results21, anW2121, dCnf] at hc); done))))))
          | (refine DW_ret ?_; simp [hnt, Try.ntmps21, Try.results21, anW2121, dCnf])
          | (refine DW_exit ?_; simp [hnt, Try.ntmps21, Try.results21, anW2121, dCnf])
          | (refine DW_skip ?_; simp [hnt, Try.ntmps21, Try.results21, anW2121, dCnf])
          | (intro hc; (try simp [hnt, Try.ntmps21, Try.results21, anW2121, dCnf] at hc); done)
          | (intro hc; (try simp [hnt, Try.ntmps21, Try.results21, anW2121, dCnf] at hc); (first | (exfalso; omega) | skip))
          | (refine callP_mk (h1) ?_; try simp [hnt, Try.ntmps21, Try.results21, anW2121, dCnf])
          | (refine callP_wk (h1) ?_ ?_; (· (simp; done)); try simp [hnt, Try.ntmps21, Try.results21, anW2121, dCnf])
          | (refine ⟨?_, ?_⟩; · omega)
          | omega
          | apply_assumption -exfalso -symm
          | (exfalso; omega)))
    rw [hb] at h1 hd
    simp only [if_true] at hd
    (repeat (first
        | (refine DW_seq fun K hK => ?_)
        | (refine DW_r anW2121 Try.mixed (by kernel_rfl) ?_; simp [hnt, Try.ntmps21, Try.results21, anW2121, dCnf]; try simp (disch := omega) only [wrap64_in])
        | (refine DW_block ?_)
        | (focus (refine DW_if ?_ ?_ ?_; (· (simp [hnt, Try.ntmps21, Try.results21, anW2121, dCnf]; done)); (try (rotate_left; (· (intro hc; (try simp [hnt, Try.ntmps21, Try.results21, anW2121, dCnf] at hc); done))))))
        | (refine DW_ret ?_; simp [hnt, Try.ntmps21, Try.results21, anW2121, dCnf])
        | (refine DW_exit ?_; simp [hnt, Try.ntmps21, Try.results21, anW2121, dCnf])
        | (refine DW_skip ?_; simp [hnt, Try.ntmps21, Try.results21, anW2121, dCnf])
        | (intro hc; (try simp [hnt, Try.ntmps21, Try.results21, anW2121, dCnf] at hc); done)
        | (intro hc; (try simp [hnt, Try.ntmps21, Try.results21, anW2121, dCnf] at hc); (first | (exfalso; omega) | skip))
        | (refine callP_mk (h1) ?_; try simp [hnt, Try.ntmps21, Try.results21, anW2121, dCnf])
        | (refine callP_wk (h1) ?_ ?_; (· (simp; done)); try simp [hnt, Try.ntmps21, Try.results21, anW2121, dCnf])
        | (refine ⟨?_, ?_⟩; · omega)
        | omega
        | apply_assumption -exfalso -symm
        | (exfalso; omega)))
    refine DW_adoptC 19 1 50 33 2 32 (by simp) (fun n => ?_)
    have hn : 1 ≤ c.nts ∧ c.nts ≤ 1024 := by
      simp only [cnfOK, Bool.and_eq_true, decide_eq_true_eq] at hb
      exact hb.1
    obtain ⟨hn1, hn2⟩ := hn
    obtain ⟨R, hR⟩ : ∃ R, R = (Mk.start c).adds c.prods := ⟨_, rfl⟩
    rw [← hR] at hd
    clear h1
    refine DW_loop (X := {x : Nat × Mk // x.1 ≤ c.prods.length ∧ x.2.adds (c.prods.drop x.1) = R ∧ c.nts ≤ x.2.nts ∧ x.2.nts ≤ 1024 ∧ (x.2.prods.length : Int) = x.1 + x.2.nts - c.nts})
      (fun x => ⟨[(1, .ref (dCnf c)), (2, .bx 2 1 0), (3, .int .i64 0), (5, .bx 19 1 0), (21, dProds c.prods), (22, .int .i64 c.prods.length), (23, .int .i64 x.1.1)], [⟨2, 1, .box [.int .i64 0, .nilsl]⟩, ⟨19, 1, .box [.int .i64 x.1.2.nts, .osl 50 1, .omp 17 1, .int .i64 x.1.2.no]⟩, ⟨50, 1, .row 33 2 32 (x.1.2.prods.map dProd)⟩, ⟨17, 1, .map (x.1.2.hs.map dKey) (x.1.2.hs.map dHelp)⟩]⟩)
      (fun x => c.prods.length - x.1.1) ⟨(0, Mk.start c), by simp [hR, Mk.start]; omega⟩ (Sub.lit (by simp [dCnf, Mk.start])) ?_
    rintro ⟨⟨k, m1⟩, hk, hA, b1, b2, b3⟩
    simp only at hk hA b1 b2 b3 ⊢
    clear hR
    by_cases hlt : k < c.prods.length
    · obtain ⟨p, hp, hp', hpm⟩ := at_lt' hlt
      obtain ⟨hw5, hw6, hw7, hw8⟩ := hw4 p hpm
      rw [List.drop_eq_getElem_cons hlt, hp'] at hA
      simp only [Mk.adds] at hA
      obtain ⟨g1, g2, g3, g4⟩ := add_gap m1 p
      simp only [Mk.gap] at g1
      have hq1 : IntKind.i64.wrap (m1.nts + p.body.length) = m1.nts + p.body.length := wrap64_in (by omega) (by omega)
      have hq2 : IntKind.i64.wrap (m1.nts + p.body.length - 2) = m1.nts + p.body.length - 2 := wrap64_in (by omega) (by omega)
      by_cases hbig : 2 < p.body.length ∧ 1024 < m1.nts + p.body.length - 2
      · obtain ⟨hg1, hg2⟩ := hbig
        rw [if_pos (by omega)] at hA
        subst hA
        simp only at hd
        subst hd
        have hg3 : (2 : Int) < p.body.length := by omega
        (repeat (first
            | (refine DW_seq fun K hK => ?_)
            | (refine DW_r anW2121 Try.mixed (by kernel_rfl) ?_; simp [hnt, Try.ntmps21, Try.results21, anW2121, dCnf, dProd, hlt, hp', hq1, hq2, hg1, hg2, hg3]; try simp (disch := omega) only [wrap64_in])
            | (refine DW_block ?_)
            | (focus (refine DW_if ?_ ?_ ?_; (· (simp [hnt, Try.ntmps21, Try.results21, anW2121, dCnf, dProd, hlt, hp', hq1, hq2, hg1, hg2, hg3]; done)); (try (rotate_left; (· (intro hc; (try simp [hnt, Try.ntmps21, Try.results21, anW2121, dCnf, dProd, hlt, hp', hq1, hq2, hg1, hg2, hg3] at hc); done))))))
            | (refine DW_ret ?_; simp [hnt, Try.ntmps21, Try.results21, anW2121, dCnf, dProd, hlt, hp', hq1, hq2, hg1, hg2, hg3])
            | (refine DW_exit ?_; simp [hnt, Try.ntmps21, Try.results21, anW2121, dCnf, dProd, hlt, hp', hq1, hq2, hg1, hg2, hg3])
            | (refine DW_skip ?_; simp [hnt, Try.ntmps21, Try.results21, anW2121, dCnf, dProd, hlt, hp', hq1, hq2, hg1, hg2, hg3])
            | (intro hc; (try simp [hnt, Try.ntmps21, Try.results21, anW2121, dCnf, dProd, hlt, hp', hq1, hq2, hg1, hg2, hg3] at hc); done)
            | (intro hc; (try simp [hnt, Try.ntmps21, Try.results21, anW2121, dCnf, dProd, hlt, hp', hq1, hq2, hg1, hg2, hg3] at hc); (first | (exfalso; omega) | skip))
            | (refine callP_mk (h1) ?_; try simp [hnt, Try.ntmps21, Try.results21, anW2121, dCnf, dProd, hlt, hp', hq1, hq2, hg1, hg2, hg3])
            | (refine callP_wk (h1) ?_ ?_; (· (simp; done)); try simp [hnt, Try.ntmps21, Try.results21, anW2121, dCnf, dProd, hlt, hp', hq1, hq2, hg1, hg2, hg3])
            | (refine ⟨?_, ?_⟩; · omega)
            | omega
            | apply_assumption -exfalso -symm
            | (exfalso; omega)))
      · have hN : p.body.length ≤ 1026 := by omega
        have e1 := add_spec m1 p (by omega) (by omega) (Nat.le_trans (Nat.mul_le_mul_right 32 (show m1.prods.length + 2 * p.body.length + 10 ≤ c.prods.length + 8000 by omega)) hsz)
        have hgo : ¬ ((2 : Int) < p.body.length ∧ 1024 < m1.nts + p.body.length - 2) := by omega
        generalize hm2 : m1.add p = m2 at e1 hA g1 g2 g3 g4
        by_cases hov : 1024 < m2.nts
        · rw [if_pos hov] at hA
          subst hA
          simp only at hd
          subst hd
          by_cases hg1 : 2 < p.body.length
          · have hg3 : (2 : Int) < p.body.length := by omega
            have hg2 : ¬ 1024 < m1.nts + p.body.length - 2 := by omega
            (repeat (first
                | (refine DW_seq fun K hK => ?_)
                | (refine DW_r anW2121 Try.mixed (by kernel_rfl) ?_; simp [hnt, Try.ntmps21, Try.results21, anW2121, dMk, dCnf, dProd, hlt, hp', hq1, hq2, hg1, hg2, hg3, hov]; try simp (disch := omega) only [wrap64_in])
                | (refine DW_block ?_)
                | (focus (refine DW_if ?_ ?_ ?_; (· (simp [hnt, Try.ntmps21, Try.results21, anW2121, dMk, dCnf, dProd, hlt, hp', hq1, hq2, hg1, hg2, hg3, hov]; done)); (try (rotate_left; (· (intro hc; (try simp [hnt, Try.ntmps21, Try.results21, anW2121, dMk, dCnf, dProd, hlt, hp', hq1, hq2, hg1, hg2, hg3, hov] at hc); done))))))
                | (refine DW_ret ?_; simp [hnt, Try.ntmps21, Try.results21, anW2121, dMk, dCnf, dProd, hlt, hp', hq1, hq2, hg1, hg2, hg3, hov])
                | (refine DW_exit ?_; simp [hnt, Try.ntmps21, Try.results21, anW2121, dMk, dCnf, dProd, hlt, hp', hq1, hq2, hg1, hg2, hg3, hov])
                | (refine DW_skip ?_; simp [hnt, Try.ntmps21, Try.results21, anW2121, dMk, dCnf, dProd, hlt, hp', hq1, hq2, hg1, hg2, hg3, hov])
                | (intro hc; (try simp [hnt, Try.ntmps21, Try.results21, anW2121, dMk, dCnf, dProd, hlt, hp', hq1, hq2, hg1, hg2, hg3, hov] at hc); done)
                | (intro hc; (try simp [hnt, Try.ntmps21, Try.results21, anW2121, dMk, dCnf, dProd, hlt, hp', hq1, hq2, hg1, hg2, hg3, hov] at hc); (first | (exfalso; omega) | skip))
                | (refine callP_mk (h1) ?_; try simp [hnt, Try.ntmps21, Try.results21, anW2121, dMk, dCnf, dProd, hlt, hp', hq1, hq2, hg1, hg2, hg3, hov])
                | (refine callP_wk (h1) ?_ ?_; (· (simp; done)); try simp [hnt, Try.ntmps21, Try.results21, anW2121, dMk, dCnf, dProd, hlt, hp', hq1, hq2, hg1, hg2, hg3, hov])
                | (refine callS_mk [(19,0),(50,1),(17,2)] [] (e1) ?_ ?_; (· (simp [hnt, Try.ntmps21, Try.results21, anW2121, dMk, dCnf, dProd, hlt, hp', hq1, hq2, hg1, hg2, hg3, hov]; done)); (intro _; try simp [hnt, Try.ntmps21, Try.results21, anW2121, dMk, dCnf, dProd, hlt, hp', hq1, hq2, hg1, hg2, hg3, hov]))
                | (refine ⟨?_, ?_⟩; · omega)
                | omega
                | apply_assumption -exfalso -symm
                | (exfalso; omega)))
          · have hg3 : ¬ (2 : Int) < p.body.length := by omega
            (repeat (first
                | (refine DW_seq fun K hK => ?_)
                | (refine DW_r anW2121 Try.mixed (by kernel_rfl) ?_; simp [hnt, Try.ntmps21, Try.results21, anW2121, dMk, dCnf, dProd, hlt, hp', hq1, hq2, hg1, hg3, hov]; try simp (disch := omega) only [wrap64_in])
                | (refine DW_block ?_)
                | (focus (refine DW_if ?_ ?_ ?_; (· (simp [hnt, Try.ntmps21, Try.results21, anW2121, dMk, dCnf, dProd, hlt, hp', hq1, hq2, hg1, hg3, hov]; done)); (try (rotate_left; (· (intro hc; (try simp [hnt, Try.ntmps21, Try.results21, anW2121, dMk, dCnf, dProd, hlt, hp', hq1, hq2, hg1, hg3, hov] at hc); done))))))
                | (refine DW_ret ?_; simp [hnt, Try.ntmps21, Try.results21, anW2121, dMk, dCnf, dProd, hlt, hp', hq1, hq2, hg1, hg3, hov])
                | (refine DW_exit ?_; simp [hnt, Try.ntmps21, Try.results21, anW2121, dMk, dCnf, dProd, hlt, hp', hq1, hq2, hg1, hg3, hov])
                | (refine DW_skip ?_; simp [hnt, Try.ntmps21, Try.results21, anW2121, dMk, dCnf, dProd, hlt, hp', hq1, hq2, hg1, hg3, hov])
                | (intro hc; (try simp [hnt, Try.ntmps21, Try.results21, anW2121, dMk, dCnf, dProd, hlt, hp', hq1, hq2, hg1, hg3, hov] at hc); done)
                | (intro hc; (try simp [hnt, Try.ntmps21, Try.results21, anW2121, dMk, dCnf, dProd, hlt, hp', hq1, hq2, hg1, hg3, hov] at hc); (first | (exfalso; omega) | skip))
                | (refine callP_mk (h1) ?_; try simp [hnt, Try.ntmps21, Try.results21, anW2121, dMk, dCnf, dProd, hlt, hp', hq1, hq2, hg1, hg3, hov])
                | (refine callP_wk (h1) ?_ ?_; (· (simp; done)); try simp [hnt, Try.ntmps21, Try.results21, anW2121, dMk, dCnf, dProd, hlt, hp', hq1, hq2, hg1, hg3, hov])
                | (refine callS_mk [(19,0),(50,1),(17,2)] [] (e1) ?_ ?_; (· (simp [hnt, Try.ntmps21, Try.results21, anW2121, dMk, dCnf, dProd, hlt, hp', hq1, hq2, hg1, hg3, hov]; done)); (intro _; try simp [hnt, Try.ntmps21, Try.results21, anW2121, dMk, dCnf, dProd, hlt, hp', hq1, hq2, hg1, hg3, hov]))
                | (refine ⟨?_, ?_⟩; · omega)
                | omega
                | apply_assumption -exfalso -symm
                | (exfalso; omega)))
        · rw [if_neg hov] at hA
          by_cases hg1 : 2 < p.body.length
          · have hg3 : (2 : Int) < p.body.length := by omega
            have hg2 : ¬ 1024 < m1.nts + p.body.length - 2 := by omega
            (repeat (first
                | (refine DW_seq fun K hK => ?_)
                | (refine DW_r anW2121 Try.mixed (by kernel_rfl) ?_; simp [hnt, Try.ntmps21, Try.results21, anW2121, dMk, dCnf, dProd, hlt, hp', hq1, hq2, hg1, hg2, hg3, hov]; try simp (disch := omega) only [wrap64_in])
                | (refine DW_block ?_)
                | (focus (refine DW_if ?_ ?_ ?_; (· (simp [hnt, Try.ntmps21, Try.results21, anW2121, dMk, dCnf, dProd, hlt, hp', hq1, hq2, hg1, hg2, hg3, hov]; done)); (try (rotate_left; (· (intro hc; (try simp [hnt, Try.ntmps21, Try.results21, anW2121, dMk, dCnf, dProd, hlt, hp', hq1, hq2, hg1, hg2, hg3, hov] at hc); done))))))
                | (refine DW_ret ?_; simp [hnt, Try.ntmps21, Try.results21, anW2121, dMk, dCnf, dProd, hlt, hp', hq1, hq2, hg1, hg2, hg3, hov])
                | (refine DW_exit ?_; simp [hnt, Try.ntmps21, Try.results21, anW2121, dMk, dCnf, dProd, hlt, hp', hq1, hq2, hg1, hg2, hg3, hov])
                | (refine DW_skip ?_; simp [hnt, Try.ntmps21, Try.results21, anW2121, dMk, dCnf, dProd, hlt, hp', hq1, hq2, hg1, hg2, hg3, hov])
                | (intro hc; (try simp [hnt, Try.ntmps21, Try.results21, anW2121, dMk, dCnf, dProd, hlt, hp', hq1, hq2, hg1, hg2, hg3, hov] at hc); done)
                | (intro hc; (try simp [hnt, Try.ntmps21, Try.results21, anW2121, dMk, dCnf, dProd, hlt, hp', hq1, hq2, hg1, hg2, hg3, hov] at hc); (first | (exfalso; omega) | skip))
                | (refine callP_mk (h1) ?_; try simp [hnt, Try.ntmps21, Try.results21, anW2121, dMk, dCnf, dProd, hlt, hp', hq1, hq2, hg1, hg2, hg3, hov])
                | (refine callP_wk (h1) ?_ ?_; (· (simp; done)); try simp [hnt, Try.ntmps21, Try.results21, anW2121, dMk, dCnf, dProd, hlt, hp', hq1, hq2, hg1, hg2, hg3, hov])
                | (refine callS_mk [(19,0),(50,1),(17,2)] [] (e1) ?_ ?_; (· (simp [hnt, Try.ntmps21, Try.results21, anW2121, dMk, dCnf, dProd, hlt, hp', hq1, hq2, hg1, hg2, hg3, hov]; done)); (intro _; try simp [hnt, Try.ntmps21, Try.results21, anW2121, dMk, dCnf, dProd, hlt, hp', hq1, hq2, hg1, hg2, hg3, hov]))
                | (refine ⟨?_, ?_⟩; · omega)
                | omega
                | apply_assumption -exfalso -symm
                | (exfalso; omega)))
            refine Again.mk ⟨(k + 1, m2), show k + 1 ≤ c.prods.length ∧ _ ∧ c.nts ≤ m2.nts ∧ m2.nts ≤ 1024 ∧ (m2.prods.length : Int) = ((k + 1 : Nat) : Int) + m2.nts - c.nts from ⟨by omega, hA, by omega, by omega, by omega⟩⟩ (Sub.lit (by simp [dMk, dCnf])) (by simp; omega)
            (repeat (first
                | (refine DW_seq fun K hK => ?_)
                | (refine DW_r anW2121 Try.mixed (by kernel_rfl) ?_; simp [hnt, Try.ntmps21, Try.results21, anW2121]; try simp (disch := omega) only [wrap64_in])
                | (refine DW_block ?_)
                | (focus (refine DW_if ?_ ?_ ?_; (· (simp [hnt, Try.ntmps21, Try.results21, anW2121]; done)); (try (rotate_left; (· (intro hc; (try simp [hnt, Try.ntmps21, Try.results21, anW2121] at hc); done))))))
                | (refine DW_ret ?_; simp [hnt, Try.ntmps21, Try.results21, anW2121])
                | (refine DW_exit ?_; simp [hnt, Try.ntmps21, Try.results21, anW2121])
                | (refine DW_skip ?_; simp [hnt, Try.ntmps21, Try.results21, anW2121])
                | (intro hc; (try simp [hnt, Try.ntmps21, Try.results21, anW2121] at hc); done)
                | (intro hc; (try simp [hnt, Try.ntmps21, Try.results21, anW2121] at hc); (first | (exfalso; omega) | skip))
                | (refine callP_mk (h1) ?_; try simp [hnt, Try.ntmps21, Try.results21, anW2121])
                | (refine callP_wk (h1) ?_ ?_; (· (simp; done)); try simp [hnt, Try.ntmps21, Try.results21, anW2121])
                | (refine callS_mk [(19,0),(50,1),(17,2)] [] (e1) ?_ ?_; (· (simp [hnt, Try.ntmps21, Try.results21, anW2121]; done)); (intro _; try simp [hnt, Try.ntmps21, Try.results21, anW2121]))
                | (refine ⟨?_, ?_⟩; · omega)
                | omega
                | apply_assumption -exfalso -symm
                | (exfalso; omega)))
          · have hg3 : ¬ (2 : Int) < p.body.length := by omega
            (repeat (first
                | (refine DW_seq fun K hK => ?_)
                | (refine DW_r anW2121 Try.mixed (by kernel_rfl) ?_; simp [hnt, Try.ntmps21, Try.results21, anW2121, dMk, dCnf, dProd, hlt, hp', hq1, hq2, hg1, hg3, hov]; try simp (disch := omega) only [wrap64_in])
                | (refine DW_block ?_)
                | (focus (refine DW_if ?_ ?_ ?_; (· (simp [hnt, Try.ntmps21, Try.results21, anW2121, dMk, dCnf, dProd, hlt, hp', hq1, hq2, hg1, hg3, hov]; done)); (try (rotate_left; (· (intro hc; (try simp [hnt, Try.ntmps21, Try.results21, anW2121, dMk, dCnf, dProd, hlt, hp', hq1, hq2, hg1, hg3, hov] at hc); done))))))
                | (refine DW_ret ?_; simp [hnt, Try.ntmps21, Try.results21, anW2121, dMk, dCnf, dProd, hlt, hp', hq1, hq2, hg1, hg3, hov])
                | (refine DW_exit ?_; simp [hnt, Try.ntmps21, Try.results21, anW2121, dMk, dCnf, dProd, hlt, hp', hq1, hq2, hg1, hg3, hov])
                | (refine DW_skip ?_; simp [hnt, Try.ntmps21, Try.results21, anW2121, dMk, dCnf, dProd, hlt, hp', hq1, hq2, hg1, hg3, hov])
                | (intro hc; (try simp [hnt, Try.ntmps21, Try.results21, anW2121, dMk, dCnf, dProd, hlt, hp', hq1, hq2, hg1, hg3, hov] at hc); done)
                | (intro hc; (try simp [hnt, Try.ntmps21, Try.results21, anW2121, dMk, dCnf, dProd, hlt, hp', hq1, hq2, hg1, hg3, hov] at hc); (first | (exfalso; omega) | skip))
                | (refine callP_mk (h1) ?_; try simp [hnt, Try.ntmps21, Try.results21, anW2121, dMk, dCnf, dProd, hlt, hp', hq1, hq2, hg1, hg3, hov])
                | (refine callP_wk (h1) ?_ ?_; (· (simp; done)); try simp [hnt, Try.ntmps21, Try.results21, anW2121, dMk, dCnf, dProd, hlt, hp', hq1, hq2, hg1, hg3, hov])
                | (refine callS_mk [(19,0),(50,1),(17,2)] [] (e1) ?_ ?_; (· (simp [hnt, Try.ntmps21, Try.results21, anW2121, dMk, dCnf, dProd, hlt, hp', hq1, hq2, hg1, hg3, hov]; done)); (intro _; try simp [hnt, Try.ntmps21, Try.results21, anW2121, dMk, dCnf, dProd, hlt, hp', hq1, hq2, hg1, hg3, hov]))
                | (refine ⟨?_, ?_⟩; · omega)
                | omega
                | apply_assumption -exfalso -symm
                | (exfalso; omega)))
            refine Again.mk ⟨(k + 1, m2), show k + 1 ≤ c.prods.length ∧ _ ∧ c.nts ≤ m2.nts ∧ m2.nts ≤ 1024 ∧ (m2.prods.length : Int) = ((k + 1 : Nat) : Int) + m2.nts - c.nts from ⟨by omega, hA, by omega, by omega, by omega⟩⟩ (Sub.lit (by simp [dMk, dCnf])) (by simp; omega)
            (repeat (first
                | (refine DW_seq fun K hK => ?_)
                | (refine DW_r anW2121 Try.mixed (by kernel_rfl) ?_; simp [hnt, Try.ntmps21, Try.results21, anW2121]; try simp (disch := omega) only [wrap64_in])
                | (refine DW_block ?_)
                | (focus (refine DW_if ?_ ?_ ?_; (· (simp [hnt, Try.ntmps21, Try.results21, anW2121]; done)); (try (rotate_left; (· (intro hc; (try simp [hnt, Try.ntmps21, Try.results21, anW2121] at hc); done))))))
                | (refine DW_ret ?_; simp [hnt, Try.ntmps21, Try.results21, anW2121])
                | (refine DW_exit ?_; simp [hnt, Try.ntmps21, Try.results21, anW2121])
                | (refine DW_skip ?_; simp [hnt, Try.ntmps21, Try.results21, anW2121])
                | (intro hc; (try simp [hnt, Try.ntmps21, Try.results21, anW2121] at hc); done)
                | (intro hc; (try simp [hnt, Try.ntmps21, Try.results21, anW2121] at hc); (first | (exfalso; omega) | skip))
                | (refine callP_mk (h1) ?_; try simp [hnt, Try.ntmps21, Try.results21, anW2121])
                | (refine callP_wk (h1) ?_ ?_; (· (simp; done)); try simp [hnt, Try.ntmps21, Try.results21, anW2121])
                | (refine callS_mk [(19,0),(50,1),(17,2)] [] (e1) ?_ ?_; (· (simp [hnt, Try.ntmps21, Try.results21, anW2121]; done)); (intro _; try simp [hnt, Try.ntmps21, Try.results21, anW2121]))
                | (refine ⟨?_, ?_⟩; · omega)
                | omega
                | apply_assumption -exfalso -symm
                | (exfalso; omega)))
    · have hkk : k = c.prods.length := by omega
      subst hkk
      rw [List.drop_length] at hA
      simp only [Mk.adds] at hA
      subst hA
      simp only at hd
      subst hd
      refine DW_sub (Sub.freezeL [50] _) ?_
      simp [hnt, Try.ntmps21, Try.results21, anW2121, dCnf]
      have h2 := fsort_pure' m1.cnf
      (repeat (first
          | (refine DW_seq fun K hK => ?_)
          | (refine DW_r anW2121 Try.mixed (by kernel_rfl) ?_; simp [hnt, Try.ntmps21, Try.results21, anW2121, dCnf]; try simp (disch := omega) only [wrap64_in])
          | (refine DW_block ?_)
          | (focus (refine DW_if ?_ ?_ ?_; (· (simp [hnt, Try.ntmps21, Try.results21, anW2121, dCnf]; done)); (try (rotate_left; (· (intro hc; (try simp [hnt, Try.ntmps21, Try.results21, anW2121, dCnf] at hc); done))))))
          | (refine DW_ret ?_; simp [hnt, Try.ntmps21, Try.results21, anW2121, dCnf])
          | (refine DW_exit ?_; simp [hnt, Try.ntmps21, Try.results21, anW2121, dCnf])
          | (refine DW_skip ?_; simp [hnt, Try.ntmps21, Try.results21, anW2121, dCnf])
          | (intro hc; (try simp [hnt, Try.ntmps21, Try.results21, anW2121, dCnf] at hc); done)
          | (intro hc; (try simp [hnt, Try.ntmps21, Try.results21, anW2121, dCnf] at hc); (first | (exfalso; omega) | skip))
          | (refine callP_mk (h2) ?_; try simp [hnt, Try.ntmps21, Try.results21, anW2121, dCnf])
          | (refine callP_wk (h2) ?_ ?_; (· (simp; done)); try simp [hnt, Try.ntmps21, Try.results21, anW2121, dCnf])
          | (refine ⟨?_, ?_⟩; · omega)
          | omega
          | apply_assumption -exfalso -symm
          | (exfalso; omega)))
  have hk := key _ rfl
  unfold ofC
  cases hb : cnfOK c <;> rw [hb] at hk
  · exact DPure.wkT hk (by simp [cnf0, dCnf, dProds]) (by simp [mx])
  · simp only [if_true] at hk ⊢
    cases hA : (Mk.start c).adds c.prods with
    | none =>
      rw [hA] at hk
      exact DPure.wkT hk (by simp [cnf0, dCnf, dProds, finC]) (by simp [mx])
    | some m =>
      rw [hA] at hk
      exact hk
end Go.Proofs.Ytihkcegelghcpaa
end

section
/- A part of a proof: walks over the functions that it names; their contracts hold for every argument. -/

set_option linter.unusedSimpArgs false
set_option linter.unusedVariables false
namespace Go.Proofs.Ytihkcegelghcpaa
open Go Go.Dm
attribute [local irreducible] DW callP callS
set_option maxRecDepth 100000

/-- the document's form of a maker -/
def hs16 (m : Mk) : List Int := (List.range 16).map fun a : Nat => (lookA m.hs a).getD (-1)
def noR (m : Mk) : Int := if m.no = 0 then -1 else m.no
def fmD (v w : Nat) (m : Mk) : DVal := .agg [.int .i64 m.nts, .osl 0 v, .osl 1 w, .int .i64 (noR m)]
def dFo (v w : Nat) (m : Mk) : List Ent := [⟨0, v, .row 33 2 32 (m.prods.map dProd)⟩, ⟨1, w, .row 3 1 8 ((hs16 m).map dInt1)⟩]
theorem hs16_len (m : Mk) : (hs16 m).length = 16 := by simp [hs16]
theorem hs16_at (m : Mk) (a : Nat) (h : a < 16) : (hs16 m)[a]? = some ((lookA m.hs a).getD (-1)) := by simp [hs16, h]
theorem lookA_app (l : List (Int × Int)) (k h a : Int) : lookA (l ++ [(k, h)]) a = match lookA l a with | some x => some x | none => if a = k then some h else none := by
  induction l with
  | nil => simp [lookA]
  | cons p l ih =>
    obtain ⟨k', h'⟩ := p
    simp only [List.cons_append, lookA]
    split
    · rfl
    · exact ih
theorem hs16_set (m : Mk) (a : Nat) (ha : a < 16) (h : Int) (hn : lookA m.hs a = none) (P : List Prod) (N : Int) : hs16 ⟨N, P, m.hs ++ [((a : Int), h)], m.no⟩ = (hs16 m).set a h := by
  apply List.ext_getElem?
  intro q
  by_cases hq : q < 16
  · rw [hs16_at _ _ hq]
    by_cases hqa : q = a
    · subst hqa
      rw [List.getElem?_set_self (by rw [hs16_len]; exact hq), lookA_app, hn]
      simp
    · rw [List.getElem?_set_ne (by omega), hs16_at _ _ hq, lookA_app]
      have : ¬ (q : Int) = a := by omega
      cases hl : lookA m.hs q <;> simp [this]
  · rw [List.getElem?_eq_none (by rw [hs16_len]; omega), List.getElem?_eq_none (by simp [hs16_len]; omega)]

def anW9392 : Ann := ⟨[], []⟩
theorem two92_pure (h a b : Int) : DPure Try.prog 92 [.int .i64 h, .int .i64 a, .int .i64 b] (.agg (dProd ⟨h, [nS a, nS b]⟩)) := by
  refine DPure_introF [] (fn := Try.f92) Try.func92 rfl Try.call92 (by simp [Try.ntmps92]) (by simp [mx]) ?_
  intro hwf B hnt
  simp only [argS]
  have hr2 : (([0, 1] : List Nat) = List.range 2) = True := eq_true rfl
  (repeat (first
      | (refine DW_seq fun K hK => ?_)
      | (refine DW_r anW9392 Try.mixed (by kernel_rfl) ?_; simp [hnt, Try.ntmps92, Try.results92, anW9392, dProd, nS, dSym, hr2]; try simp (disch := omega) only [wrap64_in])
      | (refine DW_block ?_)
      | (focus (refine DW_if ?_ ?_ ?_; (· (simp [hnt, Try.ntmps92, Try.results92, anW9392, dProd, nS, dSym, hr2]; done)); (try (rotate_left; (· (intro hc; (try simp [hnt, Try.ntmps92, Try.results92, anW9392, dProd, nS, dSym, hr2] at hc); done))))))
      | (refine DW_ret ?_; simp [hnt, Try.ntmps92, Try.results92, anW9392, dProd, nS, dSym, hr2])
      | (refine DW_exit ?_; simp [hnt, Try.ntmps92, Try.results92, anW9392, dProd, nS, dSym, hr2])
      | (refine DW_skip ?_; simp [hnt, Try.ntmps92, Try.results92, anW9392, dProd, nS, dSym, hr2])
      | (intro hc; (try simp [hnt, Try.ntmps92, Try.results92, anW9392, dProd, nS, dSym, hr2] at hc); done)
      | (intro hc; (try simp [hnt, Try.ntmps92, Try.results92, anW9392, dProd, nS, dSym, hr2] at hc); (first | (exfalso; omega) | skip))
      | (refine ⟨?_, ?_⟩; · omega)
      | omega
      | apply_assumption -exfalso -symm
      | (exfalso; omega)))

def anW9351 : Ann := ⟨[], []⟩
set_option maxHeartbeats 1000000 in
theorem begin_spec (n : Int) : DSpec Try.prog (.func 51) [.int .i64 n] [] (.agg [.int .i64 n, .nilsl, .osl 0 1, .int .i64 (-1)]) [⟨0, 1, .row 3 1 8 ((List.replicate 16 (-1 : Int)).map dInt1)⟩] := by
  refine DSpec_intro [2, 3] [(50, 0, 1)] (fn := Try.f51) Try.func51 rfl Try.call51 (by simp [Try.ntmps51]) (by simp) (by simp) ?_
  intro hwf B hnt
  simp only [argS]
  (repeat (first
      | (refine DW_seq fun K hK => ?_)
      | (refine DW_r anW9351 Try.mixed (by kernel_rfl) ?_; simp [hnt, Try.ntmps51, Try.results51, anW9351]; try simp (disch := omega) only [wrap64_in])
      | (refine DW_block ?_)
      | (focus (refine DW_if ?_ ?_ ?_; (· (simp [hnt, Try.ntmps51, Try.results51, anW9351]; done)); (try (rotate_left; (· (intro hc; (try simp [hnt, Try.ntmps51, Try.results51, anW9351] at hc); done))))))
      | (refine DW_ret ?_; simp [hnt, Try.ntmps51, Try.results51, anW9351])
      | (refine DW_exit ?_; simp [hnt, Try.ntmps51, Try.results51, anW9351])
      | (refine DW_skip ?_; simp [hnt, Try.ntmps51, Try.results51, anW9351])
      | (intro hc; (try simp [hnt, Try.ntmps51, Try.results51, anW9351] at hc); done)
      | (intro hc; (try simp [hnt, Try.ntmps51, Try.results51, anW9351] at hc); (first | (exfalso; omega) | skip))
      | (refine ⟨?_, ?_⟩; · omega)
      | omega
      | apply_assumption -exfalso -symm
      | (exfalso; omega)))
  refine DW_adoptC 3 2 50 3 1 8 (by simp) (fun q => ?_)
  refine DW_loop (X := {k : Nat // k ≤ 16}) (fun k => ⟨[(2, .bx 2 1 0), (3, .bx 3 1 0), (4, .int .i64 k.1)], [⟨2, 1, .box [.int .i64 0, .nilsl, .nilsl, .int .i64 0]⟩, ⟨3, 1, .box [.int .i64 n, .nilsl, .osl 50 1, .int .i64 (-1)]⟩, ⟨50, 1, .row 3 1 8 ((List.replicate k.1 (-1 : Int)).map dInt1)⟩]⟩) (fun k => 16 - k.1) ⟨0, by omega⟩ (Sub.lit (by simp)) ?_
  rintro ⟨k, hk⟩
  by_cases hlt : k < 16
  · have hz : (k + 1) * 8 ≤ 150000000000000 := by omega
    have hz2 : k ≤ 9223372036854775806 := by omega
    have hlt' : (k : Int) < 16 := by omega
    have hrp : List.replicate (k + 1) [DVal.int .i64 (-1)] = List.replicate k [.int .i64 (-1)] ++ [[.int .i64 (-1)]] := List.replicate_succ' ..
    have hrm : mxR (List.replicate k [DVal.int .i64 (-1)]) = 0 := by have := mx_ints (List.replicate k (-1)); simpa [dInt1] using this
    (repeat (first
        | (refine DW_seq fun K hK => ?_)
        | (refine DW_r anW9351 Try.mixed (by kernel_rfl) ?_; simp [hnt, Try.ntmps51, Try.results51, anW9351, hlt, hlt', hz, hz2]; try simp (disch := omega) only [wrap64_in])
        | (refine DW_block ?_)
        | (focus (refine DW_if ?_ ?_ ?_; (· (simp [hnt, Try.ntmps51, Try.results51, anW9351, hlt, hlt', hz, hz2]; done)); (try (rotate_left; (· (intro hc; (try simp [hnt, Try.ntmps51, Try.results51, anW9351, hlt, hlt', hz, hz2] at hc); done))))))
        | (refine DW_ret ?_; simp [hnt, Try.ntmps51, Try.results51, anW9351, hlt, hlt', hz, hz2])
        | (refine DW_exit ?_; simp [hnt, Try.ntmps51, Try.results51, anW9351, hlt, hlt', hz, hz2])
        | (refine DW_skip ?_; simp [hnt, Try.ntmps51, Try.results51, anW9351, hlt, hlt', hz, hz2])
        | (intro hc; (try simp [hnt, Try.ntmps51, Try.results51, anW9351, hlt, hlt', hz, hz2] at hc); done)
        | (intro hc; (try simp [hnt, Try.ntmps51, Try.results51, anW9351, hlt, hlt', hz, hz2] at hc); (first | (exfalso; omega) | skip))
        | (refine ⟨?_, ?_⟩; · omega)
        | omega
        | apply_assumption -exfalso -symm
        | (exfalso; omega)))
    refine Again.mk ⟨k + 1, by omega⟩ (Sub.lit (by simp [hrp, hrm, dInt1])) (by simp; omega)
    (repeat (first
        | (refine DW_seq fun K hK => ?_)
        | (refine DW_r anW9351 Try.mixed (by kernel_rfl) ?_; simp [hnt, Try.ntmps51, Try.results51, anW9351]; try simp (disch := omega) only [wrap64_in])
        | (refine DW_block ?_)
        | (focus (refine DW_if ?_ ?_ ?_; (· (simp [hnt, Try.ntmps51, Try.results51, anW9351]; done)); (try (rotate_left; (· (intro hc; (try simp [hnt, Try.ntmps51, Try.results51, anW9351] at hc); done))))))
        | (refine DW_ret ?_; simp [hnt, Try.ntmps51, Try.results51, anW9351])
        | (refine DW_exit ?_; simp [hnt, Try.ntmps51, Try.results51, anW9351])
        | (refine DW_skip ?_; simp [hnt, Try.ntmps51, Try.results51, anW9351])
        | (intro hc; (try simp [hnt, Try.ntmps51, Try.results51, anW9351] at hc); done)
        | (intro hc; (try simp [hnt, Try.ntmps51, Try.results51, anW9351] at hc); (first | (exfalso; omega) | skip))
        | (refine ⟨?_, ?_⟩; · omega)
        | omega
        | apply_assumption -exfalso -symm
        | (exfalso; omega)))
  · have hkk : k = 16 := by omega
    subst hkk
    (repeat (first
        | (refine DW_seq fun K hK => ?_)
        | (refine DW_r anW9351 Try.mixed (by kernel_rfl) ?_; simp [hnt, Try.ntmps51, Try.results51, anW9351]; try simp (disch := omega) only [wrap64_in])
        | (refine DW_block ?_)
        | (focus (refine DW_if ?_ ?_ ?_; (· (simp [hnt, Try.ntmps51, Try.results51, anW9351]; done)); (try (rotate_left; (· (intro hc; (try simp [hnt, Try.ntmps51, Try.results51, anW9351] at hc); done))))))
        | (refine DW_ret ?_; simp [hnt, Try.ntmps51, Try.results51, anW9351])
        | (refine DW_exit ?_; simp [hnt, Try.ntmps51, Try.results51, anW9351])
        | (refine DW_skip ?_; simp [hnt, Try.ntmps51, Try.results51, anW9351])
        | (intro hc; (try simp [hnt, Try.ntmps51, Try.results51, anW9351] at hc); done)
        | (intro hc; (try simp [hnt, Try.ntmps51, Try.results51, anW9351] at hc); (first | (exfalso; omega) | skip))
        | (refine ⟨?_, ?_⟩; · omega)
        | omega
        | apply_assumption -exfalso -symm
        | (exfalso; omega)))

def anW9393 : Ann := ⟨[2], [⟨2, [], [], [5003001, 5003002]⟩, ⟨7, [], [], [5007001, 5007002, 5007003, 5007004, 5007006]⟩]⟩
set_option maxHeartbeats 4000000 in
theorem sym93_spec (m : Mk) (s : Sym) (h0 : s.label = true → 0 ≤ s.n ∧ s.n < 16) (h1 : -9223372036854775808 ≤ m.nts) (h2 : m.nts + 1 ≤ 9223372036854775807) (h3 : (m.prods.length + 1) * 32 ≤ 150000000000000) (h4 : ∀ a h, lookA m.hs a = some h → 0 ≤ h) (h5 : 0 ≤ m.nts) :
    DSpec Try.prog (.func 93) [fmD 0 0 m, .agg (dSym s)] (dFo 0 0 m) (.tup [fmD 1 1 (m.sym s).1, .int .i64 (m.sym s).2]) (dFo 1 1 (m.sym s).1) := by
  refine DSpec_intro [2, 4] [(0, 0, 1), (1, 1, 1)] (fn := Try.f93) Try.func93 rfl Try.call93 (by simp [Try.ntmps93]) (by simp) (by simp [dFo]) ?_
  intro hwf B hnt
  simp only [argS, fmD]
  cases hl : s.label
  · have hsym : m.sym s = (m, s.n) := by unfold Mk.sym; simp [hl]
    rw [hsym]
    (repeat (first
        | (refine DW_seq fun K hK => ?_)
        | (refine DW_r anW9393 Try.mixed (by kernel_rfl) ?_; simp [hnt, Try.ntmps93, Try.results93, anW9393, dFo, fmD, dSym, hl]; try simp (disch := omega) only [wrap64_in])
        | (refine DW_block ?_)
        | (focus (refine DW_if ?_ ?_ ?_; (· (simp [hnt, Try.ntmps93, Try.results93, anW9393, dFo, fmD, dSym, hl]; done)); (try (rotate_left; (· (intro hc; (try simp [hnt, Try.ntmps93, Try.results93, anW9393, dFo, fmD, dSym, hl] at hc); done))))))
        | (refine DW_ret ?_; simp [hnt, Try.ntmps93, Try.results93, anW9393, dFo, fmD, dSym, hl])
        | (refine DW_exit ?_; simp [hnt, Try.ntmps93, Try.results93, anW9393, dFo, fmD, dSym, hl])
        | (refine DW_skip ?_; simp [hnt, Try.ntmps93, Try.results93, anW9393, dFo, fmD, dSym, hl])
        | (intro hc; (try simp [hnt, Try.ntmps93, Try.results93, anW9393, dFo, fmD, dSym, hl] at hc); done)
        | (intro hc; (try simp [hnt, Try.ntmps93, Try.results93, anW9393, dFo, fmD, dSym, hl] at hc); (first | (exfalso; omega) | skip))
        | (refine ⟨?_, ?_⟩; · omega)
        | omega
        | apply_assumption -exfalso -symm
        | (exfalso; omega)))
  · obtain ⟨hn1, hn2⟩ := h0 hl
    obtain ⟨a, rfl⟩ : ∃ a : Nat, s = ⟨true, a⟩ := by
      obtain ⟨lb, sn⟩ := s
      simp only at hl hn1 ⊢
      subst hl
      exact ⟨sn.toNat, by rw [Int.toNat_of_nonneg hn1]⟩
    simp only at hn1 hn2
    clear h0 hl
    have ha16 : a < 16 := by omega
    have hat := hs16_at m a ha16
    cases hlk : lookA m.hs a with
    | some h =>
      have hh := h4 _ _ hlk
      rw [hlk] at hat
      simp only [Option.getD_some] at hat
      have hat' : (hs16 m)[a]'(by rw [hs16_len]; exact ha16) = h := (List.getElem?_eq_some_iff.1 hat).2
      have hng : ¬ h < 0 := by omega
      have hsym : m.sym ⟨true, a⟩ = (m, h) := by unfold Mk.sym; simp [hlk]
      rw [hsym]
      (repeat (first
          | (refine DW_seq fun K hK => ?_)
          | (refine DW_r anW9393 Try.mixed (by kernel_rfl) ?_; simp [hnt, Try.ntmps93, Try.results93, anW9393, dFo, fmD, dSym, dInt1, hat, hat', hs16_len, ha16, hng, hh]; try simp (disch := omega) only [wrap64_in])
          | (refine DW_block ?_)
          | (focus (refine DW_if ?_ ?_ ?_; (· (simp [hnt, Try.ntmps93, Try.results93, anW9393, dFo, fmD, dSym, dInt1, hat, hat', hs16_len, ha16, hng, hh]; done)); (try (rotate_left; (· (intro hc; (try simp [hnt, Try.ntmps93, Try.results93, anW9393, dFo, fmD, dSym, dInt1, hat, hat', hs16_len, ha16, hng, hh] at hc); done))))))
          | (refine DW_ret ?_; simp [hnt, Try.ntmps93, Try.results93, anW9393, dFo, fmD, dSym, dInt1, hat, hat', hs16_len, ha16, hng, hh])
          | (refine DW_exit ?_; simp [hnt, Try.ntmps93, Try.results93, anW9393, dFo, fmD, dSym, dInt1, hat, hat', hs16_len, ha16, hng, hh])
          | (refine DW_skip ?_; simp [hnt, Try.ntmps93, Try.results93, anW9393, dFo, fmD, dSym, dInt1, hat, hat', hs16_len, ha16, hng, hh])
          | (intro hc; (try simp [hnt, Try.ntmps93, Try.results93, anW9393, dFo, fmD, dSym, dInt1, hat, hat', hs16_len, ha16, hng, hh] at hc); done)
          | (intro hc; (try simp [hnt, Try.ntmps93, Try.results93, anW9393, dFo, fmD, dSym, dInt1, hat, hat', hs16_len, ha16, hng, hh] at hc); (first | (exfalso; omega) | skip))
          | (refine ⟨?_, ?_⟩; · omega)
          | omega
          | apply_assumption -exfalso -symm
          | (exfalso; omega)))
    | none =>
      rw [hlk] at hat
      simp only [Option.getD_none] at hat
      have hat' : (hs16 m)[a]'(by rw [hs16_len]; exact ha16) = -1 := (List.getElem?_eq_some_iff.1 hat).2
      have hsym : m.sym ⟨true, a⟩ = ({ m with nts := m.nts + 1, hs := m.hs ++ [((a : Int), m.nts)], prods := m.prods ++ [⟨m.nts, [⟨true, a⟩]⟩] }, m.nts) := by unfold Mk.sym; simp [hlk]
      rw [hsym]
      have hset := hs16_set m a ha16 m.nts hlk (m.prods ++ [⟨m.nts, [⟨true, a⟩]⟩]) (m.nts + 1)
      (repeat (first
          | (refine DW_seq fun K hK => ?_)
          | (refine DW_r anW9393 Try.mixed (by kernel_rfl) ?_; simp [hnt, Try.ntmps93, Try.results93, anW9393, dFo, fmD, dSym, dInt1, hat, hat', hs16_len, ha16]; try simp (disch := omega) only [wrap64_in])
          | (refine DW_block ?_)
          | (focus (refine DW_if ?_ ?_ ?_; (· (simp [hnt, Try.ntmps93, Try.results93, anW9393, dFo, fmD, dSym, dInt1, hat, hat', hs16_len, ha16]; done)); (try (rotate_left; (· (intro hc; (try simp [hnt, Try.ntmps93, Try.results93, anW9393, dFo, fmD, dSym, dInt1, hat, hat', hs16_len, ha16] at hc); done))))))
          | (refine DW_ret ?_; simp [hnt, Try.ntmps93, Try.results93, anW9393, dFo, fmD, dSym, dInt1, hat, hat', hs16_len, ha16])
          | (refine DW_exit ?_; simp [hnt, Try.ntmps93, Try.results93, anW9393, dFo, fmD, dSym, dInt1, hat, hat', hs16_len, ha16])
          | (refine DW_skip ?_; simp [hnt, Try.ntmps93, Try.results93, anW9393, dFo, fmD, dSym, dInt1, hat, hat', hs16_len, ha16])
          | (intro hc; (try simp [hnt, Try.ntmps93, Try.results93, anW9393, dFo, fmD, dSym, dInt1, hat, hat', hs16_len, ha16] at hc); done)
          | (intro hc; (try simp [hnt, Try.ntmps93, Try.results93, anW9393, dFo, fmD, dSym, dInt1, hat, hat', hs16_len, ha16] at hc); (first | (exfalso; omega) | skip))
          | (refine ⟨?_, ?_⟩; · omega)
          | omega
          | apply_assumption -exfalso -symm
          | (exfalso; omega)))
      refine ⟨rfl, ⟨rfl, ?_⟩, ?_⟩
      · rw [hset, List.map_set]; rfl
      · have := mx_ints ((hs16 m).set a m.nts)
        rw [List.map_set] at this
        exact this
end Go.Proofs.Ytihkcegelghcpaa
end

section
/- The data machine, second make, part Z: an own row's cells weakened. -/


set_option linter.unusedSimpArgs false
set_option linter.unusedVariables false
namespace Go.Dm

theorem wkA_len : ∀ {a b : List DVal}, wkA a b → a.length = b.length
  | [], [], _ => rfl
  | [], _ :: _, h => h.elim
  | _ :: _, [], h => h.elim
  | _ :: a, _ :: b, h => by simp [wkA_len h.2]
def wkRows : List (List DVal) → List (List DVal) → Prop
  | [], [] => True
  | a :: r, b :: t => wkA a b ∧ wkRows r t
  | _, _ => False
theorem wkRows_refl : ∀ (a : List (List DVal)), wkRows a a
  | [] => trivial
  | d :: a => ⟨wkA_refl d, wkRows_refl a⟩
theorem wkRows_snoc : ∀ (a : List (List DVal)) {x y : List DVal}, wkA x y → wkRows (a ++ [x]) (a ++ [y])
  | [], _, _, h => ⟨h, trivial⟩
  | d :: a, _, _, h => ⟨wkA_refl d, wkRows_snoc a h⟩
theorem wkRows_app : ∀ {a a' b b' : List (List DVal)}, wkRows a a' → wkRows b b' → wkRows (a ++ b) (a' ++ b')
  | [], [], _, _, _, h => h
  | [], _ :: _, _, _, h, _ => h.elim
  | _ :: _, [], _, _, h, _ => h.elim
  | _ :: _, _ :: _, _, _, h, k => ⟨h.1, wkRows_app h.2 k⟩
theorem wkRows_len : ∀ {a b : List (List DVal)}, wkRows a b → a.length = b.length
  | [], [], _ => rfl
  | [], _ :: _, h => h.elim
  | _ :: _, [], h => h.elim
  | _ :: a, _ :: b, h => by simp [wkRows_len h.2]
theorem rdC_wkA {cur : Cur} {M : List Nat} {h : Array Obj} : ∀ {a b : List DVal} {arr : Array Value} {o : Nat}, wkA a b → rdC cur M h a arr o → rdC cur M h b arr o
  | [], [], _, _, _, hr => hr
  | [], _ :: _, _, _, hw, _ => hw.elim
  | _ :: _, [], _, _, hw, _ => hw.elim
  | d :: a, e :: b, arr, o, hw, hr => by
    simp only [rdC] at hr ⊢
    obtain ⟨⟨v, h1, h2, h3⟩, h4⟩ := hr
    exact ⟨⟨v, h1, h2, rd_wk hw.1 h3⟩, rdC_wkA hw.2 h4⟩
theorem rdR_wkRows {cur : Cur} {M : List Nat} {h : Array Obj} {k : Nat} : ∀ {a b : List (List DVal)} {arr : Array Value} {o : Nat}, wkRows a b → rdR cur M h k a arr o → rdR cur M h k b arr o
  | [], [], _, _, _, hr => hr
  | [], _ :: _, _, _, hw, _ => hw.elim
  | _ :: _, [], _, _, hw, _ => hw.elim
  | d :: a, e :: b, arr, o, hw, hr => by
    simp only [rdR] at hr ⊢
    obtain ⟨h1, h2, h3⟩ := hr
    exact ⟨by rw [← h1, wkA_len hw.1], rdC_wkA hw.1 h2, rdR_wkRows hw.2 h3⟩

/-- own objects with row id's elements written anew -/
def putR (es' : List (List DVal)) : DObj → DObj
  | .row et k bs _ => .row et k bs es'
  | o => o
def rowE (id : Nat) (es' : List (List DVal)) : List Ent → List Ent
  | [] => []
  | e :: t => (if e.id = id then ⟨e.id, e.r, putR es' e.obj⟩ else e) :: rowE id es' t
attribute [simp] putR rowE
theorem rowE_ids (id : Nat) (es' : List (List DVal)) : ∀ own : List Ent, (rowE id es' own).map (·.id) = own.map (·.id)
  | [] => rfl
  | e :: t => by simp only [rowE, List.map_cons, rowE_ids id es' t]; split <;> rfl
theorem rowE_hot (id : Nat) (es' : List (List DVal)) (loc : Nat → Loc) : ∀ own : List Ent, hotOf (rowE id es' own) loc = hotOf own loc
  | [] => rfl
  | e :: t => by
    have := rowE_hot id es' loc t
    simp only [hotOf, rowE, List.flatMap_cons] at this ⊢
    rw [this]; split <;> rfl
theorem rowE_mem {id : Nat} {es' : List (List DVal)} : ∀ {own : List Ent} {x : Ent}, x ∈ rowE id es' own → ∃ e ∈ own, e.id = x.id ∧ e.r = x.r ∧ ((e.id ≠ id ∧ x = e) ∨ (e.id = id ∧ x.obj = putR es' e.obj))
  | [], _, h => by simp [rowE] at h
  | e :: t, x, h => by
    simp only [rowE, List.mem_cons] at h
    rcases h with h | h
    · refine ⟨e, List.mem_cons_self, ?_⟩
      split at h
      · rename_i he; subst h; exact ⟨rfl, rfl, .inr ⟨he, rfl⟩⟩
      · rename_i he; subst h; exact ⟨rfl, rfl, .inl ⟨he, rfl⟩⟩
    · obtain ⟨e', h1, h2⟩ := rowE_mem h
      exact ⟨e', List.mem_cons_of_mem _ h1, h2⟩
theorem rowE_cur (id : Nat) (es' : List (List DVal)) (loc : Nat → Loc) (own : List Ent) : curOf (rowE id es' own) loc = curOf own loc := by
  funext i r
  have h : ∀ own : List Ent, (findE (rowE id es' own) i).map (·.r) = (findE own i).map (·.r) := by
    intro own
    induction own with
    | nil => rfl
    | cons e t ih =>
      simp only [rowE, findE]
      by_cases h1 : e.id = id
      · simp only [h1, if_true]
        by_cases h2 : id = i
        · simp [h2]
        · simp only [h2, if_false]; exact ih
      · simp only [h1, if_false]
        by_cases h2 : e.id = i
        · simp [h2]
        · simp only [h2, if_false]; exact ih
  have h0 := h own
  unfold curOf
  cases ha : findE (rowE id es' own) i <;> cases hb : findE own i <;> rw [ha, hb] at h0 <;> simp only [Option.map_none, Option.map_some, Option.some.injEq, reduceCtorEq] at h0 ⊢
  rw [h0]

theorem St.rowWk {own : List Ent} {loc : Nat → Loc} {M : List Nat} {h : Array Obj} (S : St own loc M h) (id : Nat) {et k bs : Nat} {es es' : List (List DVal)} {e : Ent} (he : findE own id = some e) (hob : e.obj = .row et k bs es) (hw : wkRows es es') : St (rowE id es' own) loc M h := by
  refine ⟨by rw [rowE_ids]; exact S.nd, by rw [rowE_hot]; exact S.bl, by rw [rowE_hot]; exact S.ap, by rw [rowE_hot]; exact S.lt, ?_⟩
  intro x hx
  simp only [rowE_cur, rowE_hot]
  obtain ⟨e', h1, h2, h3, h4⟩ := rowE_mem hx
  have hk := S.ok e' h1
  rcases h4 with ⟨_, rfl⟩ | ⟨h4, h5⟩
  · exact hk
  · have hee : e' = e := by
      have := findE_of_mem S.nd h1
      rw [h4, he] at this
      simpa using this.symm
    subst hee
    rw [← h2, h5, hob]
    rw [hob] at hk
    simp only [putR]
    obtain ⟨k1, k2⟩ := hk
    have hl := wkRows_len hw
    refine ⟨by rw [← hl]; exact k1, ?_⟩
    rcases k2 with ⟨rfl, q2, q3⟩ | ⟨b, arr, cap, q1, q2, q3, q4, q5, q6, q7⟩
    · refine .inl ⟨?_, q2, q3⟩
      cases es' with
      | nil => rfl
      | cons x t => simp at hl
    · exact .inr ⟨b, arr, cap, q1, by rw [← hl]; exact q2, q3, by rw [← hl]; exact q4, q5, q6, rdR_wkRows hw q7⟩
theorem Sub.rowWk {B : Base} {s : DS} (id : Nat) {et k bs : Nat} {es es' : List (List DVal)} {e : Ent} (he : findE s.own id = some e) (hob : e.obj = .row et k bs es) (hw : wkRows es es') : Sub B s ⟨s.slots, rowE id es' s.own⟩ := by
  intro a w loc R
  refine ⟨loc, ⟨R.st.rowWk id he hob hw, R.upd, by rw [rowE_hot]; exact R.new, ?_, ?_, R.nt, by rw [rowE_hot]; exact R.df⟩⟩
  · intro x hx
    obtain ⟨e', h1, h2, h3, _⟩ := rowE_mem hx
    rw [← h2, ← h3]
    exact R.ver e' h1
  · intro i
    have := R.sl i
    simp only [rowE_cur, rowE_hot]
    exact this
/-- what a function hands back, an own row's cells weakened -/
theorem DSpec.rowWk {P : Program} {f : Fn} {args : List DVal} {own own' : List Ent} {d : DVal} (h : DSpec P f args own d own') (id : Nat) {et k bs : Nat} {es es' : List (List DVal)} {e : Ent} (he : findE own' id = some e) (hob : e.obj = .row et k bs es) (hw : wkRows es es') : DSpec P f args own d (rowE id es' own') := by
  obtain ⟨h1, h2, h3⟩ := h
  refine ⟨fun x hx => ?_, h2, fun M w loc vs S hr => ?_⟩
  · obtain ⟨e', g1, g2, g3, _⟩ := rowE_mem hx
    rw [← g3]; exact h1 e' g1
  · have key : ∀ (R R' : Value → World → Prop), (∀ v w', R v w' → R' v w') → FCalls P f vs w R → FCalls P f vs w R' := fun R R' hRR hF => hF.mono hRR
    refine key _ _ ?_ (h3 M w loc vs S hr)
    rintro v w' ⟨loc', k1, k2, k3, k4, k5⟩
    refine ⟨loc', k1.rowWk id he hob hw, k2, by rw [rowE_hot]; exact k3, ?_, by rw [rowE_cur, rowE_hot]; exact k5⟩
    intro x hx hr1
    obtain ⟨e', g1, g2, g3, _⟩ := rowE_mem hx
    rw [← g2, ← g3]
    exact k4 e' g1 (by omega)
/-- an own row's last element weakened -/
theorem DW_rowWk {P : Program} {B : Base} {Q : Exit → DS → Prop} {s : DS} {x : Code} (id : Nat) {et k bs : Nat} {es es' : List (List DVal)} {e : Ent} (he : findE s.own id = some e) (hob : e.obj = .row et k bs es) (hw : wkRows es es') (h : DW P B x Q ⟨s.slots, rowE id es' s.own⟩) : DW P B x Q s :=
  DW_sub (Sub.rowWk id he hob hw) h
end Go.Dm
end

section
/- A part of a proof: walks over the functions that it names; their contracts hold for every argument. -/



set_option linter.unusedSimpArgs false
set_option linter.unusedVariables false
namespace Go.Proofs.Ytihkcegelghcpaa
open Go Go.Dm
attribute [local irreducible] DW callP callS
set_option maxRecDepth 100000

theorem hs16_prods (m : Mk) (N : Int) (P : List Prod) (k : Int) : hs16 ⟨N, P, m.hs, k⟩ = hs16 m := rfl
theorem form_easy {l : List Sym} (h : formOf l = 1 ∨ formOf l = 2) : l = [] ∨ ∃ n, l = [⟨true, n⟩] := by
  match l with
  | [] => exact .inl rfl
  | [⟨b, n⟩] =>
    cases b
    · simp [formOf] at h
    · exact .inr ⟨n, rfl⟩
  | [s, t] => simp only [formOf] at h; split at h <;> simp at h
  | s :: t :: u :: r => simp [formOf] at h
theorem form_one {l : List Sym} (h : ¬ (formOf l = 1 ∨ formOf l = 2)) (hl : l.length = 1) : ∃ n, l = [⟨false, n⟩] := by
  match l with
  | [⟨b, n⟩] =>
    cases b
    · exact ⟨n, rfl⟩
    · simp [formOf] at h

def anW5252 : Ann := ⟨[2], [⟨20, [], [], [9]⟩]⟩
set_option maxHeartbeats 4000000 in
theorem addR_easy (m : Mk) (p : Prod) (hf : formOf p.body = 1 ∨ formOf p.body = 2) (h3 : (m.prods.length + 1) * 32 ≤ 150000000000000) :
    DSpec Try.prog (.func 52) [fmD 0 0 m, .agg (dProd p)] (dFo 0 0 m) (fmD 1 1 (m.add p)) (dFo 1 1 (m.add p)) := by
  refine DSpec_intro [2, 4] [(0, 0, 1), (1, 1, 1)] (fn := Try.f52) Try.func52 rfl Try.call52 (by simp [Try.ntmps52]) (by simp) (by simp [dFo]) ?_
  intro hwf B hnt
  simp only [argS, fmD]
  have e4 : m.add p = { m with prods := m.prods ++ [p] } := by unfold Mk.add; rw [if_pos hf]; rfl
  rw [e4]
  obtain ⟨hd, bd⟩ := p
  simp only at hf
  rcases form_easy hf with rfl | ⟨n, rfl⟩
  · (repeat (first
      | (refine DW_seq fun K hK => ?_)
      | (refine DW_r anW5252 Try.mixed (by kernel_rfl) ?_; simp [hnt, Try.ntmps52, Try.results52, anW5252, dFo, fmD, dProd, dSyms, noR, hs16_prods]; try simp (disch := omega) only [wrap64_in])
      | (refine DW_block ?_)
      | (focus (refine DW_if ?_ ?_ ?_; (· (simp [hnt, Try.ntmps52, Try.results52, anW5252, dFo, fmD, dProd, dSyms, noR, hs16_prods]; done)); (try (rotate_left; (· (intro hc; (try simp [hnt, Try.ntmps52, Try.results52, anW5252, dFo, fmD, dProd, dSyms, noR, hs16_prods] at hc); done))))))
      | (refine DW_ret ?_; simp [hnt, Try.ntmps52, Try.results52, anW5252, dFo, fmD, dProd, dSyms, noR, hs16_prods])
      | (refine DW_exit ?_; simp [hnt, Try.ntmps52, Try.results52, anW5252, dFo, fmD, dProd, dSyms, noR, hs16_prods])
      | (refine DW_skip ?_; simp [hnt, Try.ntmps52, Try.results52, anW5252, dFo, fmD, dProd, dSyms, noR, hs16_prods])
      | (intro hc; (try simp [hnt, Try.ntmps52, Try.results52, anW5252, dFo, fmD, dProd, dSyms, noR, hs16_prods] at hc); done)
      | (intro hc; (try simp [hnt, Try.ntmps52, Try.results52, anW5252, dFo, fmD, dProd, dSyms, noR, hs16_prods] at hc); (first | (exfalso; omega) | skip))
      | (refine ⟨?_, ?_⟩; · omega)
      | omega
      | apply_assumption -exfalso -symm
      | (exfalso; omega)))
  · (repeat (first
      | (refine DW_seq fun K hK => ?_)
      | (refine DW_r anW5252 Try.mixed (by kernel_rfl) ?_; simp [hnt, Try.ntmps52, Try.results52, anW5252, dFo, fmD, dProd, dSyms, dSym, noR, hs16_prods]; try simp (disch := omega) only [wrap64_in])
      | (refine DW_block ?_)
      | (focus (refine DW_if ?_ ?_ ?_; (· (simp [hnt, Try.ntmps52, Try.results52, anW5252, dFo, fmD, dProd, dSyms, dSym, noR, hs16_prods]; done)); (try (rotate_left; (· (intro hc; (try simp [hnt, Try.ntmps52, Try.results52, anW5252, dFo, fmD, dProd, dSyms, dSym, noR, hs16_prods] at hc); done))))))
      | (refine DW_ret ?_; simp [hnt, Try.ntmps52, Try.results52, anW5252, dFo, fmD, dProd, dSyms, dSym, noR, hs16_prods])
      | (refine DW_exit ?_; simp [hnt, Try.ntmps52, Try.results52, anW5252, dFo, fmD, dProd, dSyms, dSym, noR, hs16_prods])
      | (refine DW_skip ?_; simp [hnt, Try.ntmps52, Try.results52, anW5252, dFo, fmD, dProd, dSyms, dSym, noR, hs16_prods])
      | (intro hc; (try simp [hnt, Try.ntmps52, Try.results52, anW5252, dFo, fmD, dProd, dSyms, dSym, noR, hs16_prods] at hc); done)
      | (intro hc; (try simp [hnt, Try.ntmps52, Try.results52, anW5252, dFo, fmD, dProd, dSyms, dSym, noR, hs16_prods] at hc); (first | (exfalso; omega) | skip))
      | (refine ⟨?_, ?_⟩; · omega)
      | omega
      | apply_assumption -exfalso -symm
      | (exfalso; omega)))

set_option maxHeartbeats 4000000 in
theorem addR_one (m : Mk) (p : Prod) (hf : ¬ (formOf p.body = 1 ∨ formOf p.body = 2)) (hl : p.body.length = 1) (h0 : 0 ≤ m.no) (h1 : 1 ≤ m.nts) (h2 : m.nts + 10 ≤ 9223372036854775807) (h3 : (m.prods.length + 10) * 32 ≤ 150000000000000) :
    DSpec Try.prog (.func 52) [fmD 0 0 m, .agg (dProd p)] (dFo 0 0 m) (fmD 1 1 (m.add p)) (dFo 1 1 (m.add p)) := by
  obtain ⟨hd, bd⟩ := p
  simp only at hf hl
  obtain ⟨x, rfl⟩ := form_one hf hl
  have e4 : m.add ⟨hd, [⟨false, x⟩]⟩ = { m.nothing with prods := m.nothing.prods ++ [⟨hd, [nS x, nS m.nothing.no]⟩] } := by
    unfold Mk.add
    rw [if_neg hf, if_pos hl]
    simp [Mk.syms, Mk.sym, Mk.chain, chainP]
  rw [e4]
  by_cases hno : m.no = 0
  · have e5 : m.nothing = ⟨m.nts + 1, m.prods ++ [⟨m.nts, []⟩], m.hs, m.nts⟩ := by unfold Mk.nothing; rw [if_pos hno]
    rw [e5]
    have key : DSpec Try.prog (.func 52) [fmD 0 0 m, .agg (dProd ⟨hd, [⟨false, x⟩]⟩)] (dFo 0 0 m) (.agg [.int .i64 (m.nts + 1), .osl 0 1, .osl 1 1, .int .i64 m.nts]) [⟨0, 1, .row 33 2 32 (m.prods.map dProd ++ [[.int .i64 m.nts, .nilsl], dProd ⟨hd, [nS x, nS m.nts]⟩])⟩, ⟨1, 1, .row 3 1 8 ((hs16 m).map dInt1)⟩] := by
      refine DSpec_intro [2, 4] [(0, 0, 1), (1, 1, 1)] (fn := Try.f52) Try.func52 rfl Try.call52 (by simp [Try.ntmps52]) (by simp) (by simp) ?_
      intro hwf B hnt
      simp only [argS, fmD]
      have htw := two92_pure hd x m.nts
      have hn1 : noR m = -1 := by unfold noR; rw [if_pos hno]
      (repeat (first
          | (refine DW_seq fun K hK => ?_)
          | (refine DW_r anW5252 Try.mixed (by kernel_rfl) ?_; simp [hnt, Try.ntmps52, Try.results52, anW5252, dFo, dProd, dSyms, dSym, hn1, nS]; try simp (disch := omega) only [wrap64_in])
          | (refine DW_block ?_)
          | (focus (refine DW_if ?_ ?_ ?_; (· (simp [hnt, Try.ntmps52, Try.results52, anW5252, dFo, dProd, dSyms, dSym, hn1, nS]; done)); (try (rotate_left; (· (intro hc; (try simp [hnt, Try.ntmps52, Try.results52, anW5252, dFo, dProd, dSyms, dSym, hn1, nS] at hc); done))))))
          | (refine DW_ret ?_; simp [hnt, Try.ntmps52, Try.results52, anW5252, dFo, dProd, dSyms, dSym, hn1, nS])
          | (refine DW_exit ?_; simp [hnt, Try.ntmps52, Try.results52, anW5252, dFo, dProd, dSyms, dSym, hn1, nS])
          | (refine DW_skip ?_; simp [hnt, Try.ntmps52, Try.results52, anW5252, dFo, dProd, dSyms, dSym, hn1, nS])
          | (intro hc; (try simp [hnt, Try.ntmps52, Try.results52, anW5252, dFo, dProd, dSyms, dSym, hn1, nS] at hc); done)
          | (intro hc; (try simp [hnt, Try.ntmps52, Try.results52, anW5252, dFo, dProd, dSyms, dSym, hn1, nS] at hc); (first | (exfalso; omega) | skip))
          | (refine callP_mk (htw) ?_; try simp [hnt, Try.ntmps52, Try.results52, anW5252, dFo, dProd, dSyms, dSym, hn1, nS])
          | (refine callP_wk (htw) ?_ ?_; (· (simp; done)); try simp [hnt, Try.ntmps52, Try.results52, anW5252, dFo, dProd, dSyms, dSym, hn1, nS])
          | (refine ⟨?_, ?_⟩; · omega)
          | omega
          | apply_assumption -exfalso -symm
          | (exfalso; omega)))
    have k2 := key.rowWk 0 (es' := (m.prods ++ [(⟨m.nts, []⟩ : Prod)] ++ [(⟨hd, [nS x, nS m.nts]⟩ : Prod)]).map dProd) rfl rfl (by
      rw [List.map_append, List.map_append, List.append_assoc]
      refine wkRows_app (wkRows_refl _) ⟨?_, wkA_refl _, trivial⟩
      simp [dProd, dSyms])
    have hn2 : noR ⟨m.nts + 1, m.prods ++ [⟨m.nts, []⟩] ++ [⟨hd, [nS x, nS m.nts]⟩], m.hs, m.nts⟩ = m.nts := by
      unfold noR; simp only; rw [if_neg (by omega)]
    simp only [fmD, dFo, hn2, hs16_prods]
    exact k2
  · have e5 : m.nothing = m := by unfold Mk.nothing; rw [if_neg hno]
    rw [e5]
    refine DSpec_intro [2, 4] [(0, 0, 1), (1, 1, 1)] (fn := Try.f52) Try.func52 rfl Try.call52 (by simp [Try.ntmps52]) (by simp) (by simp [dFo]) ?_
    intro hwf B hnt
    simp only [argS, fmD]
    have htw := two92_pure hd x m.no
    have hn1 : noR m = m.no := by unfold noR; rw [if_neg hno]
    have hn2 : ¬ m.no < 0 := by omega
    have hn3 : noR ⟨m.nts, m.prods ++ [⟨hd, [⟨false, x⟩, ⟨false, m.no⟩]⟩], m.hs, m.no⟩ = m.no := hn1
    (repeat (first
        | (refine DW_seq fun K hK => ?_)
        | (refine DW_r anW5252 Try.mixed (by kernel_rfl) ?_; simp [hnt, Try.ntmps52, Try.results52, anW5252, dFo, dProd, dSyms, dSym, hn1, hn2, hn3, nS, hs16_prods]; try simp (disch := omega) only [wrap64_in])
        | (refine DW_block ?_)
        | (focus (refine DW_if ?_ ?_ ?_; (· (simp [hnt, Try.ntmps52, Try.results52, anW5252, dFo, dProd, dSyms, dSym, hn1, hn2, hn3, nS, hs16_prods]; done)); (try (rotate_left; (· (intro hc; (try simp [hnt, Try.ntmps52, Try.results52, anW5252, dFo, dProd, dSyms, dSym, hn1, hn2, hn3, nS, hs16_prods] at hc); done))))))
        | (refine DW_ret ?_; simp [hnt, Try.ntmps52, Try.results52, anW5252, dFo, dProd, dSyms, dSym, hn1, hn2, hn3, nS, hs16_prods])
        | (refine DW_exit ?_; simp [hnt, Try.ntmps52, Try.results52, anW5252, dFo, dProd, dSyms, dSym, hn1, hn2, hn3, nS, hs16_prods])
        | (refine DW_skip ?_; simp [hnt, Try.ntmps52, Try.results52, anW5252, dFo, dProd, dSyms, dSym, hn1, hn2, hn3, nS, hs16_prods])
        | (intro hc; (try simp [hnt, Try.ntmps52, Try.results52, anW5252, dFo, dProd, dSyms, dSym, hn1, hn2, hn3, nS, hs16_prods] at hc); done)
        | (intro hc; (try simp [hnt, Try.ntmps52, Try.results52, anW5252, dFo, dProd, dSyms, dSym, hn1, hn2, hn3, nS, hs16_prods] at hc); (first | (exfalso; omega) | skip))
        | (refine callP_mk (htw) ?_; try simp [hnt, Try.ntmps52, Try.results52, anW5252, dFo, dProd, dSyms, dSym, hn1, hn2, hn3, nS, hs16_prods])
        | (refine callP_wk (htw) ?_ ?_; (· (simp; done)); try simp [hnt, Try.ntmps52, Try.results52, anW5252, dFo, dProd, dSyms, dSym, hn1, hn2, hn3, nS, hs16_prods])
        | (refine ⟨?_, ?_⟩; · omega)
        | omega
        | apply_assumption -exfalso -symm
        | (exfalso; omega)))

def Mk.Pos (m : Mk) : Prop := 0 ≤ m.nts ∧ ∀ a h, lookA m.hs a = some h → 0 ≤ h
theorem pos_sym {m : Mk} (h : m.Pos) (s : Sym) : (m.sym s).1.Pos := by
  obtain ⟨h1, h2⟩ := h
  unfold Mk.sym
  split
  · split
    · exact ⟨h1, h2⟩
    · refine ⟨by simp only; omega, fun a x hx => ?_⟩
      simp only [lookA_app] at hx
      split at hx
      · rename_i y hy
        simp only [Option.some.injEq] at hx
        subst hx
        exact h2 _ _ hy
      · split at hx
        · simp only [Option.some.injEq] at hx
          omega
        · simp at hx
  · exact ⟨h1, h2⟩
theorem pos_syms {l : List Sym} : ∀ {m : Mk}, m.Pos → (m.syms l).1.Pos := by
  induction l with
  | nil => intro m h; exact h
  | cons s l ih => intro m h; exact ih (pos_sym h s)

def anW5252b2 : Ann := ⟨[2, 86], [⟨20, [], [], [9]⟩]⟩
set_option maxHeartbeats 8000000 in
theorem addR_more (m : Mk) (p : Prod) (hf : ¬ (formOf p.body = 1 ∨ formOf p.body = 2)) (hl : ¬ p.body.length = 1) (hl2 : p.body.length ≤ 1026) (hok : ∀ s ∈ p.body, s.label = true → 0 ≤ s.n ∧ s.n < 16) (hpos : m.Pos)
    (h2 : m.nts + 4000 ≤ 9223372036854775807) (h3 : (m.prods.length + 4000) * 32 ≤ 150000000000000) :
    DSpec Try.prog (.func 52) [fmD 0 0 m, .agg (dProd p)] (dFo 0 0 m) (fmD 1 1 (m.add p)) (dFo 1 1 (m.add p)) := by
  have e4 : m.add p = (m.syms p.body).1.chain p.head (m.syms p.body).2 := by unfold Mk.add; rw [if_neg hf, if_neg hl]
  rw [e4]
  have hge := form_two (fun h => hf (.inl h)) (fun h => hf (.inr h))
  obtain ⟨hd, l⟩ := p
  simp only at hl hl2 hok hge ⊢
  clear e4 hf
  refine DSpec_intro [2, 4] [(0, 0, 1), (1, 1, 1)] (fn := Try.f52) Try.func52 rfl Try.call52 (by simp [Try.ntmps52]) (by simp) (by simp [dFo]) ?_
  intro hwf B hnt
  simp only [argS, fmD]
  have q1 : ¬ l = [] := fun h => by rw [h] at hge; simp at hge
  have q2 : ¬ (l.length : Int) = 1 := by omega
  have q3 : ¬ (1026 : Int) < l.length := by omega
  have q4 : ¬ (l.length : Int) = 0 := by omega
  have q5 : ((l.length : Int) == 0) = false := by simpa using q4
  have q6 : ((l.length : Int) == 1) = false := by simpa using q2
  obtain ⟨s0, hs0, hs0', _⟩ := at_lt' (show 0 < l.length by omega)
  (repeat (first
      | (refine DW_seq fun K hK => ?_)
      | (refine DW_r anW5252b2 Try.mixed (by kernel_rfl) ?_; simp [hnt, Try.ntmps52, Try.results52, anW5252b2, dFo, dProd, dSym, q1, q2, q3, q4, q5, q6, hl, hs0, hs0']; try simp (disch := omega) only [wrap64_in])
      | (refine DW_block ?_)
      | (focus (refine DW_if ?_ ?_ ?_; (· (simp [hnt, Try.ntmps52, Try.results52, anW5252b2, dFo, dProd, dSym, q1, q2, q3, q4, q5, q6, hl, hs0, hs0']; done)); (try (rotate_left; (· (intro hc; (try simp [hnt, Try.ntmps52, Try.results52, anW5252b2, dFo, dProd, dSym, q1, q2, q3, q4, q5, q6, hl, hs0, hs0'] at hc); done))))))
      | (refine DW_ret ?_; simp [hnt, Try.ntmps52, Try.results52, anW5252b2, dFo, dProd, dSym, q1, q2, q3, q4, q5, q6, hl, hs0, hs0'])
      | (refine DW_exit ?_; simp [hnt, Try.ntmps52, Try.results52, anW5252b2, dFo, dProd, dSym, q1, q2, q3, q4, q5, q6, hl, hs0, hs0'])
      | (refine DW_skip ?_; simp [hnt, Try.ntmps52, Try.results52, anW5252b2, dFo, dProd, dSym, q1, q2, q3, q4, q5, q6, hl, hs0, hs0'])
      | (intro hc; (try simp [hnt, Try.ntmps52, Try.results52, anW5252b2, dFo, dProd, dSym, q1, q2, q3, q4, q5, q6, hl, hs0, hs0'] at hc); done)
      | (intro hc; (try simp [hnt, Try.ntmps52, Try.results52, anW5252b2, dFo, dProd, dSym, q1, q2, q3, q4, q5, q6, hl, hs0, hs0'] at hc); (first | (exfalso; omega) | skip))
      | (refine ⟨?_, ?_⟩; · omega)
      | omega
      | apply_assumption -exfalso -symm
      | (exfalso; omega)))
  refine DW_adoptS 6 52 3 1 8 (by simp [hnt, Try.ntmps52]) (fun n => ?_)
  refine DW_loop (X := {x : Nat × Mk × List Int // x.1 ≤ l.length ∧ ((x.2.1.syms (l.drop x.1)).1, x.2.2 ++ (x.2.1.syms (l.drop x.1)).2) = m.syms l ∧ x.2.1.Pos ∧ x.2.1.nts ≤ m.nts + x.1 ∧ x.2.1.prods.length ≤ m.prods.length + x.1 ∧ x.2.2.length = x.1})
    (fun x => ⟨[(2, .bx 2 1 0), (3, .ref [.int .i64 hd, dSyms l]), (4, .bx 4 1 0), (5, .int .i64 l.length), (6, .osl 52 1), (7, .int .i64 x.1.1)], [⟨4, 1, .box [.int .i64 0, .nilsl, .nilsl, .int .i64 0]⟩, ⟨2, 1, .box [.int .i64 x.1.2.1.nts, .osl 0 1, .osl 1 1, .int .i64 (noR x.1.2.1)]⟩, ⟨0, 1, .row 33 2 32 (x.1.2.1.prods.map dProd)⟩, ⟨1, 1, .row 3 1 8 ((hs16 x.1.2.1).map dInt1)⟩, ⟨52, 1, .row 3 1 8 (x.1.2.2.map dInt1)⟩]⟩)
    (fun x => l.length - x.1.1) ⟨(0, m, []), by simpa using hpos⟩ (Sub.lit (by simp)) ?_
  rintro ⟨⟨k, m1, acc⟩, hk, hR, b1, b2, b3, b4⟩
  simp only at hk hR b1 b2 b3 b4 ⊢
  by_cases hlt : k < l.length
  · obtain ⟨s, hs, hs', hsm⟩ := at_lt' hlt
    rw [List.drop_eq_getElem_cons hlt, hs'] at hR
    simp only [Mk.syms] at hR
    have hz : (acc.length + 1) * 8 ≤ 150000000000000 := by omega
    have hz2 : acc.length ≤ 9223372036854775806 := by omega
    have e1 := sym93_spec m1 s (hok s hsm) (by have := b1.1; omega) (by omega) (Nat.le_trans (Nat.mul_le_mul_right 32 (by omega)) h3) b1.2 b1.1
    obtain ⟨g1, g2, g3⟩ := sym_gap m1 s
    have g4 := pos_sym b1 s
    simp only [Mk.gap] at g1
    generalize (m1.sym s).1 = m2 at e1 hR g1 g2 g3 g4
    generalize (m1.sym s).2 = x at e1 hR
    simp only [fmD] at e1
    (repeat (first
        | (refine DW_seq fun K hK => ?_)
        | (refine DW_r anW5252b2 Try.mixed (by kernel_rfl) ?_; simp [hnt, Try.ntmps52, Try.results52, anW5252b2, dFo, dProd, dSym, hlt, hs', hz, hz2]; try simp (disch := omega) only [wrap64_in])
        | (refine DW_block ?_)
        | (focus (refine DW_if ?_ ?_ ?_; (· (simp [hnt, Try.ntmps52, Try.results52, anW5252b2, dFo, dProd, dSym, hlt, hs', hz, hz2]; done)); (try (rotate_left; (· (intro hc; (try simp [hnt, Try.ntmps52, Try.results52, anW5252b2, dFo, dProd, dSym, hlt, hs', hz, hz2] at hc); done))))))
        | (refine DW_ret ?_; simp [hnt, Try.ntmps52, Try.results52, anW5252b2, dFo, dProd, dSym, hlt, hs', hz, hz2])
        | (refine DW_exit ?_; simp [hnt, Try.ntmps52, Try.results52, anW5252b2, dFo, dProd, dSym, hlt, hs', hz, hz2])
        | (refine DW_skip ?_; simp [hnt, Try.ntmps52, Try.results52, anW5252b2, dFo, dProd, dSym, hlt, hs', hz, hz2])
        | (intro hc; (try simp [hnt, Try.ntmps52, Try.results52, anW5252b2, dFo, dProd, dSym, hlt, hs', hz, hz2] at hc); done)
        | (intro hc; (try simp [hnt, Try.ntmps52, Try.results52, anW5252b2, dFo, dProd, dSym, hlt, hs', hz, hz2] at hc); (first | (exfalso; omega) | skip))
        | (refine callS_mk [(0,0),(1,1)] [] (e1) ?_ ?_; (· (simp [hnt, Try.ntmps52, Try.results52, anW5252b2, dFo, dProd, dSym, hlt, hs', hz, hz2]; done)); (intro _; try simp [hnt, Try.ntmps52, Try.results52, anW5252b2, dFo, dProd, dSym, hlt, hs', hz, hz2]))
        | (refine ⟨?_, ?_⟩; · omega)
        | omega
        | apply_assumption -exfalso -symm
        | (exfalso; omega)))
    refine Again.mk ⟨(k + 1, m2, acc ++ [x]), show k + 1 ≤ l.length ∧ _ ∧ m2.Pos ∧ m2.nts ≤ m.nts + ((k + 1 : Nat) : Int) ∧ m2.prods.length ≤ m.prods.length + (k + 1) ∧ (acc ++ [x]).length = k + 1 from ⟨by omega, by simpa using hR, g4, by omega, by omega, by simp; omega⟩⟩ (Sub.lit (by simp [dInt1])) (by simp; omega)
    (repeat (first
        | (refine DW_seq fun K hK => ?_)
        | (refine DW_r anW5252b2 Try.mixed (by kernel_rfl) ?_; simp [hnt, Try.ntmps52, Try.results52, anW5252b2]; try simp (disch := omega) only [wrap64_in])
        | (refine DW_block ?_)
        | (focus (refine DW_if ?_ ?_ ?_; (· (simp [hnt, Try.ntmps52, Try.results52, anW5252b2]; done)); (try (rotate_left; (· (intro hc; (try simp [hnt, Try.ntmps52, Try.results52, anW5252b2] at hc); done))))))
        | (refine DW_ret ?_; simp [hnt, Try.ntmps52, Try.results52, anW5252b2])
        | (refine DW_exit ?_; simp [hnt, Try.ntmps52, Try.results52, anW5252b2])
        | (refine DW_skip ?_; simp [hnt, Try.ntmps52, Try.results52, anW5252b2])
        | (intro hc; (try simp [hnt, Try.ntmps52, Try.results52, anW5252b2] at hc); done)
        | (intro hc; (try simp [hnt, Try.ntmps52, Try.results52, anW5252b2] at hc); (first | (exfalso; omega) | skip))
        | (refine callS_mk [(0,0),(1,1)] [] (e1) ?_ ?_; (· (simp [hnt, Try.ntmps52, Try.results52, anW5252b2]; done)); (intro _; try simp [hnt, Try.ntmps52, Try.results52, anW5252b2]))
        | (refine ⟨?_, ?_⟩; · omega)
        | omega
        | apply_assumption -exfalso -symm
        | (exfalso; omega)))
  · have hkk : k = l.length := by omega
    subst hkk
    rw [List.drop_length] at hR
    simp only [Mk.syms, List.append_nil] at hR
    have hS := hR
    clear hR hlt hk
    have hb0 := b1.1
    obtain ⟨q, hq⟩ : ∃ q, l.length = q + 2 := ⟨l.length - 2, by omega⟩
    rw [hq] at b2 b3 b4 hl2
    have hw : IntKind.i64.wrap (q : Int) = q := wrap64_in (by omega) (by omega)
    (repeat (first
        | (refine DW_seq fun K hK => ?_)
        | (refine DW_r anW5252b2 Try.mixed (by kernel_rfl) ?_; simp [hnt, Try.ntmps52, Try.results52, anW5252b2, dFo, dProd, hq, hw]; try simp (disch := omega) only [wrap64_in])
        | (refine DW_block ?_)
        | (focus (refine DW_if ?_ ?_ ?_; (· (simp [hnt, Try.ntmps52, Try.results52, anW5252b2, dFo, dProd, hq, hw]; done)); (try (rotate_left; (· (intro hc; (try simp [hnt, Try.ntmps52, Try.results52, anW5252b2, dFo, dProd, hq, hw] at hc); done))))))
        | (refine DW_ret ?_; simp [hnt, Try.ntmps52, Try.results52, anW5252b2, dFo, dProd, hq, hw])
        | (refine DW_exit ?_; simp [hnt, Try.ntmps52, Try.results52, anW5252b2, dFo, dProd, hq, hw])
        | (refine DW_skip ?_; simp [hnt, Try.ntmps52, Try.results52, anW5252b2, dFo, dProd, hq, hw])
        | (intro hc; (try simp [hnt, Try.ntmps52, Try.results52, anW5252b2, dFo, dProd, hq, hw] at hc); done)
        | (intro hc; (try simp [hnt, Try.ntmps52, Try.results52, anW5252b2, dFo, dProd, hq, hw] at hc); (first | (exfalso; omega) | skip))
        | (refine ⟨?_, ?_⟩; · omega)
        | omega
        | apply_assumption -exfalso -symm
        | (exfalso; omega)))
    refine DW_loop (X := {x : Nat × List Prod × Int // x.1 ≤ q ∧ x.2.1.length = m1.prods.length + x.1 ∧ x.2.1 ++ chainP (m1.nts + x.1) x.2.2 (acc.drop x.1) = m1.prods ++ chainP m1.nts hd acc})
      (fun x => ⟨[(2, .bx 2 1 0), (4, .bx 4 1 0), (5, .int .i64 (q + 2)), (6, .osl 52 1), (9, .int .i64 x.1.2.2), (10, .int .i64 x.1.1)], [⟨4, 1, .box [.int .i64 0, .nilsl, .nilsl, .int .i64 0]⟩, ⟨2, 1, .box [.int .i64 (m1.nts + x.1.1), .osl 0 1, .osl 1 1, .int .i64 (noR m1)]⟩, ⟨0, 1, .row 33 2 32 (x.1.2.1.map dProd)⟩, ⟨1, 1, .row 3 1 8 ((hs16 m1).map dInt1)⟩, ⟨52, 1, .row 3 1 8 (acc.map dInt1)⟩]⟩)
      (fun x => q - x.1.1) ⟨(0, m1.prods, hd), by simp⟩ (Sub.lit (by simp)) ?_
    rintro ⟨⟨j, P, prev⟩, hj, hP, hR⟩
    simp only at hj hP hR ⊢
    obtain ⟨a, ha, ha', _⟩ := at_lt' (show j < acc.length by omega)
    have hz1 : (P.length + 1) * 32 ≤ 150000000000000 := Nat.le_trans (Nat.mul_le_mul_right 32 (by omega)) h3
    have hz2 : P.length ≤ 9223372036854775806 := by omega
    by_cases hlt : j < q
    · have hlt' : (j : Int) + 2 < (q : Int) + 2 := by omega
      rw [drop3 (b := 0) (by omega) ha] at hR
      have e1 := two92_pure prev a (m1.nts + j)
      have hw4 : IntKind.i64.wrap (m1.nts + j + 1) = m1.nts + j + 1 := wrap64_in (by omega) (by omega)
      (repeat (first
          | (refine DW_seq fun K hK => ?_)
          | (refine DW_r anW5252b2 Try.mixed (by kernel_rfl) ?_; simp [hnt, Try.ntmps52, Try.results52, anW5252b2, dFo, dProd, dSym, dInt1, nS, hlt, hlt', ha, ha', b4, hz1, hz2, hw4]; try simp (disch := omega) only [wrap64_in])
          | (refine DW_block ?_)
          | (focus (refine DW_if ?_ ?_ ?_; (· (simp [hnt, Try.ntmps52, Try.results52, anW5252b2, dFo, dProd, dSym, dInt1, nS, hlt, hlt', ha, ha', b4, hz1, hz2, hw4]; done)); (try (rotate_left; (· (intro hc; (try simp [hnt, Try.ntmps52, Try.results52, anW5252b2, dFo, dProd, dSym, dInt1, nS, hlt, hlt', ha, ha', b4, hz1, hz2, hw4] at hc); done))))))
          | (refine DW_ret ?_; simp [hnt, Try.ntmps52, Try.results52, anW5252b2, dFo, dProd, dSym, dInt1, nS, hlt, hlt', ha, ha', b4, hz1, hz2, hw4])
          | (refine DW_exit ?_; simp [hnt, Try.ntmps52, Try.results52, anW5252b2, dFo, dProd, dSym, dInt1, nS, hlt, hlt', ha, ha', b4, hz1, hz2, hw4])
          | (refine DW_skip ?_; simp [hnt, Try.ntmps52, Try.results52, anW5252b2, dFo, dProd, dSym, dInt1, nS, hlt, hlt', ha, ha', b4, hz1, hz2, hw4])
          | (intro hc; (try simp [hnt, Try.ntmps52, Try.results52, anW5252b2, dFo, dProd, dSym, dInt1, nS, hlt, hlt', ha, ha', b4, hz1, hz2, hw4] at hc); done)
          | (intro hc; (try simp [hnt, Try.ntmps52, Try.results52, anW5252b2, dFo, dProd, dSym, dInt1, nS, hlt, hlt', ha, ha', b4, hz1, hz2, hw4] at hc); (first | (exfalso; omega) | skip))
          | (refine callP_mk (e1) ?_; try simp [hnt, Try.ntmps52, Try.results52, anW5252b2, dFo, dProd, dSym, dInt1, nS, hlt, hlt', ha, ha', b4, hz1, hz2, hw4])
          | (refine callP_wk (e1) ?_ ?_; (· (simp; done)); try simp [hnt, Try.ntmps52, Try.results52, anW5252b2, dFo, dProd, dSym, dInt1, nS, hlt, hlt', ha, ha', b4, hz1, hz2, hw4])
          | (refine ⟨?_, ?_⟩; · omega)
          | omega
          | apply_assumption -exfalso -symm
          | (exfalso; omega)))
      refine Again.mk ⟨(j + 1, P ++ [⟨prev, [nS a, nS (m1.nts + j)]⟩], m1.nts + j), show j + 1 ≤ q ∧ (P ++ [(⟨prev, [nS a, nS (m1.nts + j)]⟩ : Prod)]).length = m1.prods.length + (j + 1) ∧ _ from ⟨by omega, by simp; omega, ?_⟩⟩ (Sub.lit (by simp [nS, dProd, dSym]; omega)) (by simp; omega)
      · rw [← hR, List.append_assoc, show m1.nts + ((j + 1 : Nat) : Int) = m1.nts + j + 1 by omega]
        rfl
      (repeat (first
          | (refine DW_seq fun K hK => ?_)
          | (refine DW_r anW5252b2 Try.mixed (by kernel_rfl) ?_; simp [hnt, Try.ntmps52, Try.results52, anW5252b2]; try simp (disch := omega) only [wrap64_in])
          | (refine DW_block ?_)
          | (focus (refine DW_if ?_ ?_ ?_; (· (simp [hnt, Try.ntmps52, Try.results52, anW5252b2]; done)); (try (rotate_left; (· (intro hc; (try simp [hnt, Try.ntmps52, Try.results52, anW5252b2] at hc); done))))))
          | (refine DW_ret ?_; simp [hnt, Try.ntmps52, Try.results52, anW5252b2])
          | (refine DW_exit ?_; simp [hnt, Try.ntmps52, Try.results52, anW5252b2])
          | (refine DW_skip ?_; simp [hnt, Try.ntmps52, Try.results52, anW5252b2])
          | (intro hc; (try simp [hnt, Try.ntmps52, Try.results52, anW5252b2] at hc); done)
          | (intro hc; (try simp [hnt, Try.ntmps52, Try.results52, anW5252b2] at hc); (first | (exfalso; omega) | skip))
          | (refine callP_mk (e1) ?_; try simp [hnt, Try.ntmps52, Try.results52, anW5252b2])
          | (refine callP_wk (e1) ?_ ?_; (· (simp; done)); try simp [hnt, Try.ntmps52, Try.results52, anW5252b2])
          | (refine ⟨?_, ?_⟩; · omega)
          | omega
          | apply_assumption -exfalso -symm
          | (exfalso; omega)))
    · have hjq : j = q := by omega
      subst hjq
      obtain ⟨b, hb, hb', _⟩ := at_lt' (show j + 1 < acc.length by omega)
      rw [drop2 (by omega) ha hb] at hR
      have e1 := two92_pure prev a b
      have hx1 : (j : Int) + 2 - 2 = j := by omega
      have hx2 : (j : Int) + 2 - 1 = j + 1 := by omega
      have htn : ((j : Int) + 1).toNat = j + 1 := by omega
      have hw1 : IntKind.i64.wrap ((j : Int) + 1) = j + 1 := wrap64_in (by omega) (by omega)
      (repeat (first
          | (refine DW_seq fun K hK => ?_)
          | (refine DW_r anW5252b2 Try.mixed (by kernel_rfl) ?_; simp [hnt, Try.ntmps52, Try.results52, anW5252b2, dFo, dProd, dSym, dInt1, nS, ha, ha', hb, hb', b4, hz1, hz2, hx1, hx2, htn, hw, hw1]; try simp (disch := omega) only [wrap64_in])
          | (refine DW_block ?_)
          | (focus (refine DW_if ?_ ?_ ?_; (· (simp [hnt, Try.ntmps52, Try.results52, anW5252b2, dFo, dProd, dSym, dInt1, nS, ha, ha', hb, hb', b4, hz1, hz2, hx1, hx2, htn, hw, hw1]; done)); (try (rotate_left; (· (intro hc; (try simp [hnt, Try.ntmps52, Try.results52, anW5252b2, dFo, dProd, dSym, dInt1, nS, ha, ha', hb, hb', b4, hz1, hz2, hx1, hx2, htn, hw, hw1] at hc); done))))))
          | (refine DW_ret ?_; simp [hnt, Try.ntmps52, Try.results52, anW5252b2, dFo, dProd, dSym, dInt1, nS, ha, ha', hb, hb', b4, hz1, hz2, hx1, hx2, htn, hw, hw1])
          | (refine DW_exit ?_; simp [hnt, Try.ntmps52, Try.results52, anW5252b2, dFo, dProd, dSym, dInt1, nS, ha, ha', hb, hb', b4, hz1, hz2, hx1, hx2, htn, hw, hw1])
          | (refine DW_skip ?_; simp [hnt, Try.ntmps52, Try.results52, anW5252b2, dFo, dProd, dSym, dInt1, nS, ha, ha', hb, hb', b4, hz1, hz2, hx1, hx2, htn, hw, hw1])
          | (intro hc; (try simp [hnt, Try.ntmps52, Try.results52, anW5252b2, dFo, dProd, dSym, dInt1, nS, ha, ha', hb, hb', b4, hz1, hz2, hx1, hx2, htn, hw, hw1] at hc); done)
          | (intro hc; (try simp [hnt, Try.ntmps52, Try.results52, anW5252b2, dFo, dProd, dSym, dInt1, nS, ha, ha', hb, hb', b4, hz1, hz2, hx1, hx2, htn, hw, hw1] at hc); (first | (exfalso; omega) | skip))
          | (refine callP_mk (e1) ?_; try simp [hnt, Try.ntmps52, Try.results52, anW5252b2, dFo, dProd, dSym, dInt1, nS, ha, ha', hb, hb', b4, hz1, hz2, hx1, hx2, htn, hw, hw1])
          | (refine callP_wk (e1) ?_ ?_; (· (simp; done)); try simp [hnt, Try.ntmps52, Try.results52, anW5252b2, dFo, dProd, dSym, dInt1, nS, ha, ha', hb, hb', b4, hz1, hz2, hx1, hx2, htn, hw, hw1])
          | (refine ⟨?_, ?_⟩; · omega)
          | omega
          | apply_assumption -exfalso -symm
          | (exfalso; omega)))
      rw [← hS]
      have e3 : m1.chain hd acc = { m1 with nts := m1.nts + j, prods := P ++ [⟨prev, [nS a, nS b]⟩] } := by
        unfold Mk.chain
        rw [hR, b4]
        rfl
      simp only
      rw [e3]
      refine ⟨⟨rfl, rfl⟩, ?_, rfl⟩
      simp [dProd, nS, dSym]
end Go.Proofs.Ytihkcegelghcpaa
end

section
/- A weak normal form is one, and is its own. Plain Lean. -/





set_option linter.unusedSimpArgs false
set_option linter.unusedVariables false
namespace Go.Proofs.Ytihkcegelghcpaa
open Go Go.Dm

def symG (N : Int) (s : Sym) : Prop := if s.label then 0 ≤ s.n ∧ s.n < 16 else 0 ≤ s.n ∧ s.n < N
def gP (N : Int) (p : Prod) : Prop := (0 ≤ p.head ∧ p.head < N) ∧ formOf p.body ≠ 0 ∧ ∀ s ∈ p.body, symG N s
structure GoodM (m : Mk) : Prop where
  one : 1 ≤ m.nts
  ps : ∀ p ∈ m.prods, gP m.nts p
  hs : ∀ a h, lookA m.hs a = some h → 0 ≤ h ∧ h < m.nts
  no : 0 ≤ m.no ∧ (m.no = 0 ∨ m.no < m.nts)
theorem symG_mono {N N' : Int} (h : N ≤ N') {s : Sym} (hs : symG N s) : symG N' s := by
  unfold symG at *
  split
  · rename_i hl; rw [if_pos hl] at hs; exact hs
  · rename_i hl; rw [if_neg hl] at hs; exact ⟨hs.1, by omega⟩
theorem gP_mono {N N' : Int} (h : N ≤ N') {p : Prod} (hp : gP N p) : gP N' p := ⟨⟨hp.1.1, by have := hp.1.2; omega⟩, hp.2.1, fun s hs => symG_mono h (hp.2.2 s hs)⟩
theorem GoodM.pos {m : Mk} (h : GoodM m) : m.Pos := ⟨by have := h.one; omega, fun a x hx => (h.hs a x hx).1⟩
theorem good_sym {m : Mk} (h : GoodM m) {s : Sym} (hs : symG m.nts s) : GoodM (m.sym s).1 ∧ 0 ≤ (m.sym s).2 ∧ (m.sym s).2 < (m.sym s).1.nts := by
  have h1 := h.one
  unfold Mk.sym
  unfold symG at hs
  split
  · rename_i hl
    rw [if_pos hl] at hs
    split
    · rename_i x hx
      exact ⟨h, h.hs _ _ hx⟩
    · rename_i hx
      refine ⟨⟨by simp only; omega, ?_, ?_, ?_⟩, by simp only; omega, by simp only; omega⟩
      · intro p hp
        rcases List.mem_append.1 hp with hp | hp
        · exact gP_mono (by simp only; omega) (h.ps p hp)
        · simp only [List.mem_singleton] at hp
          subst hp
          refine ⟨by simp only; omega, by simp [formOf, hl], ?_⟩
          intro t ht
          simp only [List.mem_singleton] at ht
          subst ht
          unfold symG
          rw [if_pos hl]
          exact hs
      · intro a x hx'
        simp only [lookA_app] at hx'
        split at hx'
        · rename_i y hy
          simp only [Option.some.injEq] at hx'
          subst hx'
          have := h.hs _ _ hy
          exact ⟨this.1, by simp only; omega⟩
        · split at hx'
          · simp only [Option.some.injEq] at hx'
            subst hx'
            exact ⟨by omega, by simp only; omega⟩
          · simp at hx'
      · have := h.no
        exact ⟨this.1, by simp only; omega⟩
  · rename_i hl
    rw [if_neg hl] at hs
    exact ⟨h, hs⟩
theorem good_syms : ∀ {l : List Sym} {m : Mk}, GoodM m → (∀ s ∈ l, symG m.nts s) → GoodM (m.syms l).1 ∧ ∀ n ∈ (m.syms l).2, 0 ≤ n ∧ n < (m.syms l).1.nts
  | [], m, h, _ => ⟨h, by simp [Mk.syms]⟩
  | s :: l, m, h, hs => by
    obtain ⟨h1, h2, h3⟩ := good_sym h (hs s List.mem_cons_self)
    have hle := (sym_gap m s).2.1
    obtain ⟨h4, h5⟩ := good_syms h1 fun t ht => symG_mono hle (hs t (List.mem_cons_of_mem _ ht))
    have hle2 := (syms_gap l (m.sym s).1).2.1
    refine ⟨h4, fun n hn => ?_⟩
    simp only [Mk.syms, List.mem_cons] at hn
    rcases hn with rfl | hn
    · exact ⟨h2, by simp only [Mk.syms]; omega⟩
    · exact h5 n hn
theorem good_nothing {m : Mk} (h : GoodM m) : GoodM m.nothing ∧ 0 ≤ m.nothing.no ∧ m.nothing.no < m.nothing.nts := by
  have h1 := h.one
  unfold Mk.nothing
  split
  · refine ⟨⟨by simp only; omega, ?_, ?_, by simp only; omega⟩, by simp only; omega, by simp only; omega⟩
    · intro p hp
      rcases List.mem_append.1 hp with hp | hp
      · exact gP_mono (by simp only; omega) (h.ps p hp)
      · simp only [List.mem_singleton] at hp
        subst hp
        exact ⟨by simp only; omega, by simp [formOf], by simp⟩
    · intro a x hx
      have := h.hs a x hx
      exact ⟨this.1, by simp only; omega⟩
  · rename_i hn
    have := h.no
    exact ⟨h, this.1, by omega⟩
theorem good_chainP : ∀ (ns : List Int) (N nts head : Int), (0 ≤ head ∧ head < N) → (0 ≤ nts ∧ nts + (ns.length - 2 : Nat) ≤ N) → (∀ n ∈ ns, 0 ≤ n ∧ n < N) → ∀ p ∈ chainP nts head ns, gP N p
  | [], _, _, _, _, _, _, p, hp => by simp [chainP] at hp
  | [_], _, _, _, _, _, _, p, hp => by simp [chainP] at hp
  | [a, b], N, nts, head, h1, h2, h3, p, hp => by
    simp only [chainP, List.mem_singleton] at hp
    subst hp
    refine ⟨h1, by simp [formOf, nS], fun s hs => ?_⟩
    simp only [List.mem_cons, List.not_mem_nil, or_false] at hs
    rcases hs with rfl | rfl
    · exact h3 a (by simp)
    · exact h3 b (by simp)
  | a :: b :: c :: r, N, nts, head, h1, h2, h3, p, hp => by
    simp only [chainP, List.mem_cons] at hp
    have hl : (a :: b :: c :: r).length - 2 = r.length + 1 := by simp
    rw [hl] at h2
    rcases hp with rfl | hp
    · refine ⟨h1, by simp [formOf, nS], fun s hs => ?_⟩
      simp only [List.mem_cons, List.not_mem_nil, or_false] at hs
      rcases hs with rfl | rfl
      · exact h3 a (by simp)
      · exact ⟨h2.1, by simp only [nS]; omega⟩
    · refine good_chainP (b :: c :: r) N (nts + 1) nts ⟨h2.1, by omega⟩ ⟨by omega, ?_⟩ (fun n hn => h3 n (List.mem_cons_of_mem _ hn)) p (by simpa using hp)
      have hl2 : (b :: c :: r).length - 2 = r.length := by simp
      rw [hl2]
      omega
theorem good_chain {m : Mk} (h : GoodM m) {hd : Int} {ns : List Int} (h1 : 0 ≤ hd ∧ hd < m.nts) (h2 : ∀ n ∈ ns, 0 ≤ n ∧ n < m.nts) : GoodM (m.chain hd ns) := by
  have h0 := h.one
  have hle : m.nts ≤ m.nts + ((ns.length - 2 : Nat) : Int) := by omega
  refine ⟨by simp only [Mk.chain]; omega, ?_, fun a x hx => ?_, ?_⟩
  · intro p hp
    rcases List.mem_append.1 hp with hp | hp
    · exact gP_mono hle (h.ps p hp)
    · exact good_chainP ns (m.chain hd ns).nts m.nts hd ⟨h1.1, by simp only [Mk.chain]; omega⟩ ⟨by omega, Int.le_refl _⟩ (fun n hn => ⟨(h2 n hn).1, by have := (h2 n hn).2; simp only [Mk.chain]; omega⟩) p hp
  · have := h.hs a x hx
    exact ⟨this.1, by simp only [Mk.chain]; omega⟩
  · have := h.no
    exact ⟨this.1, by simp only [Mk.chain]; omega⟩
theorem good_put {m : Mk} (h : GoodM m) {p : Prod} (hp : gP m.nts p) : GoodM (m.put p.head p.body) := by
  refine ⟨h.one, fun q hq => ?_, h.hs, h.no⟩
  rcases List.mem_append.1 hq with hq | hq
  · exact h.ps q hq
  · simp only [List.mem_singleton] at hq
    subst hq
    exact hp
theorem good_add {m : Mk} (h : GoodM m) {p : Prod} (h1 : 0 ≤ p.head ∧ p.head < m.nts) (h2 : ∀ s ∈ p.body, symG m.nts s) : GoodM (m.add p) := by
  unfold Mk.add
  split
  · rename_i hf
    exact good_put h ⟨h1, by rcases hf with hf | hf <;> rw [hf] <;> decide, h2⟩
  · obtain ⟨g1, g2⟩ := good_syms h h2
    have hle := (syms_gap p.body m).2.1
    split
    · obtain ⟨k1, k2, k3⟩ := good_nothing g1
      have hle2 := (nothing_gap (m.syms p.body).1).2.1
      refine good_chain k1 ⟨h1.1, by omega⟩ fun n hn => ?_
      rcases List.mem_append.1 hn with hn | hn
      · have := g2 n hn
        exact ⟨this.1, by omega⟩
      · simp only [List.mem_singleton] at hn
        subst hn
        exact ⟨k2, k3⟩
    · exact good_chain g1 ⟨h1.1, by omega⟩ g2
theorem symBad_G {c : Cnf} {s : Sym} (h : symBad c s = false) : symG c.nts s := by
  unfold symBad at h
  unfold symG
  cases hl : s.label <;> simp_all [ntOK]
theorem symG_bad {c : Cnf} {s : Sym} (h : symG c.nts s) : symBad c s = false := by
  unfold symG at h
  unfold symBad
  cases hl : s.label <;> simp_all [ntOK]
theorem prodOK_iff {c : Cnf} {p : Prod} : prodOK c p = true ↔ (0 ≤ p.head ∧ p.head < c.nts) ∧ ∀ s ∈ p.body, symG c.nts s := by
  unfold prodOK
  rw [Bool.and_eq_true]
  constructor
  · rintro ⟨h1, h2⟩
    refine ⟨by simpa [ntOK] using h1, fun s hs => symBad_G ?_⟩
    simp only [Bool.not_eq_true', List.any_eq_false] at h2
    simpa using h2 s hs
  · rintro ⟨h1, h2⟩
    refine ⟨by simpa [ntOK] using h1, ?_⟩
    simp only [Bool.not_eq_true', List.any_eq_false]
    intro s hs
    rw [symG_bad (h2 s hs)]
    simp
theorem cnfOK_iff {c : Cnf} : cnfOK c = true ↔ (1 ≤ c.nts ∧ c.nts ≤ 1024) ∧ ∀ p ∈ c.prods, (0 ≤ p.head ∧ p.head < c.nts) ∧ ∀ s ∈ p.body, symG c.nts s := by
  unfold cnfOK
  simp only [Bool.and_eq_true, decide_eq_true_eq, List.all_eq_true, prodOK_iff]
theorem good_adds : ∀ {l : List Prod} {m r : Mk}, GoodM m → m.nts ≤ 1024 → (∀ p ∈ l, (0 ≤ p.head ∧ p.head < m.nts) ∧ ∀ s ∈ p.body, symG m.nts s) → m.adds l = some r → GoodM r ∧ r.nts ≤ 1024
  | [], m, r, h, hn, _, hr => by simp only [Mk.adds, Option.some.injEq] at hr; subst hr; exact ⟨h, hn⟩
  | p :: l, m, r, h, hn, hl, hr => by
    simp only [Mk.adds] at hr
    split at hr
    · simp at hr
    · rename_i hov
      obtain ⟨h1, h2⟩ := hl p List.mem_cons_self
      have hle := (add_gap m p).2.1
      exact good_adds (good_add h h1 h2) (by omega) (fun q hq => by
        obtain ⟨g1, g2⟩ := hl q (List.mem_cons_of_mem _ hq)
        exact ⟨⟨g1.1, by omega⟩, fun s hs => symG_mono hle (g2 s hs)⟩) hr
theorem good_start {c : Cnf} (h : cnfOK c = true) : GoodM (Mk.start c) := by
  obtain ⟨h1, _⟩ := cnfOK_iff.1 h
  exact ⟨h1.1, by simp [Mk.start], by simp [Mk.start, lookA], by simp [Mk.start]⟩
theorem adds_good {c : Cnf} {r : Mk} (h : cnfOK c = true) (hr : (Mk.start c).adds c.prods = some r) : GoodM r ∧ r.nts ≤ 1024 := by
  obtain ⟨h1, h2⟩ := cnfOK_iff.1 h
  exact good_adds (good_start h) h1.2 h2 hr
theorem good_ok {m : Mk} (h : GoodM m) (hn : m.nts ≤ 1024) : cnfOK m.cnf = true := cnfOK_iff.2 ⟨⟨h.one, hn⟩, fun p hp => ⟨(h.ps p hp).1, (h.ps p hp).2.2⟩⟩
/-- the same, said shortly -/
theorem ofC_eq (c : Cnf) : ofC c = if cnfOK c then ((match (Mk.start c).adds c.prods with | none => (cnf0, 240) | some m => (normC m.cnf, 0)) : Cnf × Int) else (cnf0, 220) := by
  unfold ofC
  split
  · rename_i h
    cases hA : (Mk.start c).adds c.prods with
    | none => rfl
    | some m =>
      obtain ⟨g1, g2⟩ := adds_good h hA
      simp [finC, good_ok g1 g2]
  · rfl

/-! a weak one is its own -/
theorem form3 {l : List Sym} (h0 : formOf l ≠ 0) (h : ¬ (formOf l = 1 ∨ formOf l = 2)) : ∃ a b, l = [nS a, nS b] := by
  match l with
  | [] => simp [formOf] at h
  | [s] => cases hs : s.label <;> simp_all [formOf]
  | [⟨x, a⟩, ⟨y, b⟩] =>
    cases x <;> cases y <;> simp_all [formOf]
    exact ⟨⟨a, rfl⟩, ⟨b, rfl⟩⟩
  | s :: t :: u :: r => simp [formOf] at h0
theorem add_weak {m : Mk} {p : Prod} (h : formOf p.body ≠ 0) : m.add p = { m with prods := m.prods ++ [p] } := by
  unfold Mk.add
  split
  · rfl
  · rename_i hf
    obtain ⟨a, b, hb⟩ := form3 h hf
    obtain ⟨hd, bd⟩ := p
    simp only at hb
    subst hb
    simp [Mk.syms, Mk.sym, Mk.chain, chainP, nS]
theorem adds_weak : ∀ {l : List Prod} {m : Mk}, m.nts ≤ 1024 → (∀ p ∈ l, formOf p.body ≠ 0) → m.adds l = some { m with prods := m.prods ++ l }
  | [], m, _, _ => by simp [Mk.adds]
  | p :: l, m, hn, h => by
    simp only [Mk.adds]
    rw [add_weak (h p List.mem_cons_self), if_neg (by simp only; omega), adds_weak (m := { m with prods := m.prods ++ [p] }) hn fun q hq => h q (List.mem_cons_of_mem _ hq)]
    simp
theorem ofC_weak {c : Cnf} (h : cnfOK c = true) (hw : ∀ p ∈ c.prods, formOf p.body ≠ 0) : ofC c = (normC c, 0) := by
  rw [ofC_eq, if_pos h]
  have h1 := (cnfOK_iff.1 h).1
  rw [adds_weak (by simp only [Mk.start]; omega) hw]
  simp [Mk.start, Mk.cnf]
theorem adds_gap : ∀ {l : List Prod} {m r : Mk}, m.adds l = some r → r.gap = m.gap + l.length
  | [], m, r, h => by simp only [Mk.adds, Option.some.injEq] at h; subst h; simp
  | p :: l, m, r, h => by
    simp only [Mk.adds] at h
    split at h
    · simp at h
    · have h1 := adds_gap h
      have h2 := (add_gap m p).1
      simp only [List.length_cons]
      omega
theorem ofC_len {c x : Cnf} (h : ofC c = (x, 0)) : x.prods.length ≤ c.prods.length + 1024 := by
  rw [ofC_eq] at h
  split at h
  · rename_i hk
    cases hA : (Mk.start c).adds c.prods with
    | none => rw [hA] at h; simp at h
    | some m =>
      rw [hA] at h
      simp only [_root_.Prod.mk.injEq, and_true] at h
      subst h
      obtain ⟨_, g2⟩ := adds_good hk hA
      have g3 := adds_gap hA
      simp only [Mk.gap, Mk.start, List.length_nil] at g3
      have h1 := ((cnfOK_iff.1 hk).1).1
      have h2 := norm_len m.cnf
      simp only [Mk.cnf] at h2 ⊢
      omega
  · simp at h
theorem ofC_again (c : Cnf) : (∃ x, ofC c = (x, 0) ∧ cnfOK x = true ∧ (∀ p ∈ x.prods, formOf p.body ≠ 0) ∧ ofC x = (x, 0)) ∨ ∃ e, e ≠ 0 ∧ ofC c = (cnf0, e) := by
  rw [ofC_eq]
  split
  · rename_i h
    cases hA : (Mk.start c).adds c.prods with
    | none => exact .inr ⟨240, by decide, rfl⟩
    | some m =>
      obtain ⟨g1, g2⟩ := adds_good h hA
      have hok := good_ok g1 g2
      have hok2 : cnfOK (normC m.cnf) = true := by rw [cnfOK_norm]; exact hok
      have hw : ∀ p ∈ (normC m.cnf).prods, formOf p.body ≠ 0 := fun p hp => (g1.ps p ((norm_mem _ p).1 hp)).2.1
      refine .inl ⟨normC m.cnf, rfl, hok2, hw, ?_⟩
      rw [ofC_weak hok2 hw, norm_norm]
  · exact .inr ⟨220, by decide, rfl⟩
end Go.Proofs.Ytihkcegelghcpaa
end

