/- Parts of a proof, laid together: WE1, WB1, WB5, WB6, WB7, WB8, WBp. -/
import Derived.Test.YtffdjbdokgbibaaGreatqCO6
import Derived.Test.YtffdjbdokgbibaaGreatqCO7
section
/- ways held against each other: the program's, the document's -/


set_option linter.unusedSimpArgs false
set_option linter.unusedVariables false
namespace Go.Proofs.YtffdjbdokgbibaaGreat
open Go Go.Dm
attribute [local irreducible] DW callP callS
set_option maxRecDepth 100000

def anWE111 : Ann := ⟨[], []⟩
theorem or2_pure (a b : Int) : DPure Tryz.prog 11 [.sl 1 8 [[.int .i64 a], [.int .i64 b]]] (.int .i64 (if a = 0 then b else a)) := by
  refine DPure_introF [] (fn := Tryz.f11) Tryz.func11 rfl Tryz.call11 (by simp [Tryz.ntmps11]) (by simp [mx]) ?_
  intro hwf B hnt
  simp only [Tryz.ntmps11] at hnt
  simp only [argS]
  (repeat (first | refine DW_seq fun K hK => ?_ | (refine DW_r anWE111 Tryz.mixed (by kernel_rfl) ?_; simp [anWE111, hnt]; try simp (disch := omega) only [wrap64_in]) | refine DW_block ?_ | (refine DW_if ?_ ?_ ?_; (· (simp [hnt]; done)); (try (rotate_left; (· (intro hc; (try simp [hnt] at hc); done))))) | (refine DW_ret ?_; simp [Tryz.results11, hnt]) | ((first | refine DW_exit ?_ | refine DW_skip ?_); simp [hnt]) | (intro hc; (try simp [hnt] at hc); (try (exfalso; omega))) | (refine ⟨?_, ?_⟩; · omega) | omega | apply_assumption -exfalso -symm | (exfalso; omega)))
  refine DW_loop (X := {k : Nat // k ≤ 2 ∧ (0 < k → a = 0) ∧ (1 < k → b = 0)}) (fun k => ⟨[(3, .int .i64 0), (6, .sl 1 8 [[.int .i64 a], [.int .i64 b]]), (7, .int .i64 2), (8, .int .i64 k.1)], []⟩) (fun k => 2 - k.1) ⟨0, by simp⟩ (Sub.lit (by simp)) ?_
  rintro ⟨k, hk, ha, hb⟩
  match k, hk, ha, hb with
  | 0, _, _, _ =>
    by_cases h : a = 0
    · (repeat (first | refine DW_seq fun K hK => ?_ | (refine DW_r anWE111 Tryz.mixed (by kernel_rfl) ?_; simp [anWE111, hnt, h]; try simp (disch := omega) only [wrap64_in]) | refine DW_block ?_ | (refine DW_if ?_ ?_ ?_; (· (simp [hnt, h]; done)); (try (rotate_left; (· (intro hc; (try simp [hnt, h] at hc); done))))) | (refine DW_ret ?_; simp [Tryz.results11, hnt, h]) | ((first | refine DW_exit ?_ | refine DW_skip ?_); simp [hnt, h]) | (intro hc; (try simp [hnt, h] at hc); (try (exfalso; omega))) | (refine ⟨?_, ?_⟩; · omega) | omega | apply_assumption -exfalso -symm | (exfalso; omega)))
      refine Again.mk ⟨1, by simp [h]⟩ (Sub.lit (by simp)) (by simp)
      (repeat (first | refine DW_seq fun K hK => ?_ | (refine DW_r anWE111 Tryz.mixed (by kernel_rfl) ?_; simp [anWE111, hnt, h]; try simp (disch := omega) only [wrap64_in]) | refine DW_block ?_ | (refine DW_if ?_ ?_ ?_; (· (simp [hnt, h]; done)); (try (rotate_left; (· (intro hc; (try simp [hnt, h] at hc); done))))) | (refine DW_ret ?_; simp [Tryz.results11, hnt, h]) | ((first | refine DW_exit ?_ | refine DW_skip ?_); simp [hnt, h]) | (intro hc; (try simp [hnt, h] at hc); (try (exfalso; omega))) | (refine ⟨?_, ?_⟩; · omega) | omega | apply_assumption -exfalso -symm | (exfalso; omega)))
    · have h' : (a != 0) = true := by simpa using h
      (repeat (first | refine DW_seq fun K hK => ?_ | (refine DW_r anWE111 Tryz.mixed (by kernel_rfl) ?_; simp [anWE111, hnt, h, h']; try simp (disch := omega) only [wrap64_in]) | refine DW_block ?_ | (refine DW_if ?_ ?_ ?_; (· (simp [hnt, h, h']; done)); (try (rotate_left; (· (intro hc; (try simp [hnt, h, h'] at hc); done))))) | (refine DW_ret ?_; simp [Tryz.results11, hnt, h, h']) | ((first | refine DW_exit ?_ | refine DW_skip ?_); simp [hnt, h, h']) | (intro hc; (try simp [hnt, h, h'] at hc); (try (exfalso; omega))) | (refine ⟨?_, ?_⟩; · omega) | omega | apply_assumption -exfalso -symm | (exfalso; omega)))
  | 1, _, ha, _ =>
    have ha := ha (by omega)
    by_cases h : b = 0
    · (repeat (first | refine DW_seq fun K hK => ?_ | (refine DW_r anWE111 Tryz.mixed (by kernel_rfl) ?_; simp [anWE111, hnt, h]; try simp (disch := omega) only [wrap64_in]) | refine DW_block ?_ | (refine DW_if ?_ ?_ ?_; (· (simp [hnt, h]; done)); (try (rotate_left; (· (intro hc; (try simp [hnt, h] at hc); done))))) | (refine DW_ret ?_; simp [Tryz.results11, hnt, h]) | ((first | refine DW_exit ?_ | refine DW_skip ?_); simp [hnt, h]) | (intro hc; (try simp [hnt, h] at hc); (try (exfalso; omega))) | (refine ⟨?_, ?_⟩; · omega) | omega | apply_assumption -exfalso -symm | (exfalso; omega)))
      refine Again.mk ⟨2, by simp [h, ha]⟩ (Sub.lit (by simp)) (by simp)
      (repeat (first | refine DW_seq fun K hK => ?_ | (refine DW_r anWE111 Tryz.mixed (by kernel_rfl) ?_; simp [anWE111, hnt, h]; try simp (disch := omega) only [wrap64_in]) | refine DW_block ?_ | (refine DW_if ?_ ?_ ?_; (· (simp [hnt, h]; done)); (try (rotate_left; (· (intro hc; (try simp [hnt, h] at hc); done))))) | (refine DW_ret ?_; simp [Tryz.results11, hnt, h]) | ((first | refine DW_exit ?_ | refine DW_skip ?_); simp [hnt, h]) | (intro hc; (try simp [hnt, h] at hc); (try (exfalso; omega))) | (refine ⟨?_, ?_⟩; · omega) | omega | apply_assumption -exfalso -symm | (exfalso; omega)))
    · have h' : (b != 0) = true := by simpa using h
      (repeat (first | refine DW_seq fun K hK => ?_ | (refine DW_r anWE111 Tryz.mixed (by kernel_rfl) ?_; simp [anWE111, hnt, h, h', ha]; try simp (disch := omega) only [wrap64_in]) | refine DW_block ?_ | (refine DW_if ?_ ?_ ?_; (· (simp [hnt, h, h', ha]; done)); (try (rotate_left; (· (intro hc; (try simp [hnt, h, h', ha] at hc); done))))) | (refine DW_ret ?_; simp [Tryz.results11, hnt, h, h', ha]) | ((first | refine DW_exit ?_ | refine DW_skip ?_); simp [hnt, h, h', ha]) | (intro hc; (try simp [hnt, h, h', ha] at hc); (try (exfalso; omega))) | (refine ⟨?_, ?_⟩; · omega) | omega | apply_assumption -exfalso -symm | (exfalso; omega)))
  | 2, _, ha, hb =>
    have ha := ha (by omega)
    have hb := hb (by omega)
    (repeat (first | refine DW_seq fun K hK => ?_ | (refine DW_r anWE111 Tryz.mixed (by kernel_rfl) ?_; simp [anWE111, hnt, ha, hb]; try simp (disch := omega) only [wrap64_in]) | refine DW_block ?_ | (refine DW_if ?_ ?_ ?_; (· (simp [hnt, ha, hb]; done)); (try (rotate_left; (· (intro hc; (try simp [hnt, ha, hb] at hc); done))))) | (refine DW_ret ?_; simp [Tryz.results11, hnt, ha, hb]) | ((first | refine DW_exit ?_ | refine DW_skip ?_); simp [hnt, ha, hb]) | (intro hc; (try simp [hnt, ha, hb] at hc); (try (exfalso; omega))) | (refine ⟨?_, ?_⟩; · omega) | omega | apply_assumption -exfalso -symm | (exfalso; omega)))

theorem str_ne {s x : ByteArray} (hb : ¬ s = x) : (s == x) = false := by simpa using hb
def anWE140 : Ann := ⟨[], []⟩
theorem isNaNS_pure (s : ByteArray) : DPure Tryz.prog 40 [.str s] (.bool false) := by
  refine DPure_introF [] (fn := Tryz.f40) Tryz.func40 rfl Tryz.call40 (by simp [Tryz.ntmps40]) (by simp [mx]) ?_
  intro hwf B hnt
  simp only [Tryz.ntmps40] at hnt
  simp only [argS]
  (repeat (first | refine DW_seq fun K hK => ?_ | (refine DW_r anWE140 Tryz.mixed (by kernel_rfl) ?_; simp [anWE140, hnt]; try simp (disch := omega) only [wrap64_in]) | refine DW_block ?_ | (refine DW_if ?_ ?_ ?_; (· (simp [hnt]; done)); (try (rotate_left; (· (intro hc; (try simp [hnt] at hc); done))))) | (refine DW_ret ?_; simp [Tryz.results40, hnt]) | ((first | refine DW_exit ?_ | refine DW_skip ?_); simp [hnt]) | (intro hc; (try simp [hnt] at hc); (try (exfalso; omega))) | (refine ⟨?_, ?_⟩; · omega) | omega | apply_assumption -exfalso -symm | (exfalso; omega)))
def anWE122 : Ann := ⟨[], []⟩
theorem cmpStr_pure (a b : ByteArray) : DPure Tryz.prog 22 [.str a, .str b] (.int .i64 (sCmp a b)) := by
  refine DPure_introF [] (fn := Tryz.f22) Tryz.func22 rfl Tryz.call22 (by simp [Tryz.ntmps22]) (by simp [mx]) ?_
  intro hwf B hnt
  simp only [Tryz.ntmps22] at hnt
  simp only [argS]
  unfold sCmp
  cases h1 : sLess a b
  · have g1 : Op.bytesLess a.data.toList b.data.toList = false := h1
    cases h2 : sLess b a
    · have g2 : (a == b) = true := by rw [sLess_tri h1 h2]; exact beq_self_eq_true b
      (repeat (first | refine DW_seq fun K hK => ?_ | (refine DW_r anWE122 Tryz.mixed (by kernel_rfl) ?_; simp [anWE122, hnt, g1, g2]; try simp (disch := omega) only [wrap64_in]) | refine DW_block ?_ | (refine DW_if ?_ ?_ ?_; (· (simp [hnt, g1, g2]; done)); (try (rotate_left; (· (intro hc; (try simp [hnt, g1, g2] at hc); done))))) | (refine DW_ret ?_; simp [Tryz.results22, hnt, g1, g2]) | ((first | refine DW_exit ?_ | refine DW_skip ?_); simp [hnt, g1, g2]) | (intro hc; (try simp [hnt, g1, g2] at hc); (try (exfalso; omega))) | ((first | refine callP_mk (isNaNS_pure a) ?_ | refine callP_mk (isNaNS_pure b) ?_ | (refine callP_wk (isNaNS_pure a) ?_ ?_; (· (simp; done))) | (refine callP_wk (isNaNS_pure b) ?_ ?_; (· (simp; done)))); try simp [hnt, g1, g2]) | (refine ⟨?_, ?_⟩; · omega) | omega | apply_assumption -exfalso -symm | (exfalso; omega)))
    · have g2 : (a == b) = false := str_ne fun e => by subst e; rw [sLess_irr] at h2; simp at h2
      (repeat (first | refine DW_seq fun K hK => ?_ | (refine DW_r anWE122 Tryz.mixed (by kernel_rfl) ?_; simp [anWE122, hnt, g1, g2]; try simp (disch := omega) only [wrap64_in]) | refine DW_block ?_ | (refine DW_if ?_ ?_ ?_; (· (simp [hnt, g1, g2]; done)); (try (rotate_left; (· (intro hc; (try simp [hnt, g1, g2] at hc); done))))) | (refine DW_ret ?_; simp [Tryz.results22, hnt, g1, g2]) | ((first | refine DW_exit ?_ | refine DW_skip ?_); simp [hnt, g1, g2]) | (intro hc; (try simp [hnt, g1, g2] at hc); (try (exfalso; omega))) | ((first | refine callP_mk (isNaNS_pure a) ?_ | refine callP_mk (isNaNS_pure b) ?_ | (refine callP_wk (isNaNS_pure a) ?_ ?_; (· (simp; done))) | (refine callP_wk (isNaNS_pure b) ?_ ?_; (· (simp; done)))); try simp [hnt, g1, g2]) | (refine ⟨?_, ?_⟩; · omega) | omega | apply_assumption -exfalso -symm | (exfalso; omega)))
  · have g1 : Op.bytesLess a.data.toList b.data.toList = true := h1
    (repeat (first | refine DW_seq fun K hK => ?_ | (refine DW_r anWE122 Tryz.mixed (by kernel_rfl) ?_; simp [anWE122, hnt, g1]; try simp (disch := omega) only [wrap64_in]) | refine DW_block ?_ | (refine DW_if ?_ ?_ ?_; (· (simp [hnt, g1]; done)); (try (rotate_left; (· (intro hc; (try simp [hnt, g1] at hc); done))))) | (refine DW_ret ?_; simp [Tryz.results22, hnt, g1]) | ((first | refine DW_exit ?_ | refine DW_skip ?_); simp [hnt, g1]) | (intro hc; (try simp [hnt, g1] at hc); (try (exfalso; omega))) | ((first | refine callP_mk (isNaNS_pure a) ?_ | refine callP_mk (isNaNS_pure b) ?_ | (refine callP_wk (isNaNS_pure a) ?_ ?_; (· (simp; done))) | (refine callP_wk (isNaNS_pure b) ?_ ?_; (· (simp; done)))); try simp [hnt, g1]) | (refine ⟨?_, ?_⟩; · omega) | omega | apply_assumption -exfalso -symm | (exfalso; omega)))
def anWE114 : Ann := ⟨[], []⟩
theorem byName_pure (x y : Edge) : DPure Tryz.prog 14 [.agg (dEdge x), .agg (dEdge y)] (.int .i64 (eCmp x y)) := by
  refine DPure_introF [] (fn := Tryz.f14) Tryz.func14 rfl Tryz.call14 (by simp [Tryz.ntmps14]) (by simp [mx]) ?_
  intro hwf B hnt
  simp only [Tryz.ntmps14] at hnt
  simp only [argS]
  have h4 := or3_pure (sCmp x.fr y.fr) (sCmp x.lb y.lb) (sCmp x.to y.to)
  rw [show (if sCmp x.fr y.fr = 0 then (if sCmp x.lb y.lb = 0 then sCmp x.to y.to else sCmp x.lb y.lb) else sCmp x.fr y.fr) = eCmp x y by unfold eCmp; simp only [ne_eq, ite_not]] at h4
  (repeat (first | refine DW_seq fun K hK => ?_ | (refine DW_r anWE114 Tryz.mixed (by kernel_rfl) ?_; simp [anWE114, hnt, dEdge]; try simp (disch := omega) only [wrap64_in]) | refine DW_block ?_ | (refine DW_if ?_ ?_ ?_; (· (simp [hnt, dEdge]; done)); (try (rotate_left; (· (intro hc; (try simp [hnt, dEdge] at hc); done))))) | (refine DW_ret ?_; simp [Tryz.results14, hnt, dEdge]) | ((first | refine DW_exit ?_ | refine DW_skip ?_); simp [hnt, dEdge]) | (intro hc; (try simp [hnt, dEdge] at hc); (try (exfalso; omega))) | ((first | refine callP_mk (cmpStr_pure x.fr y.fr) ?_ | refine callP_mk (cmpStr_pure x.lb y.lb) ?_ | refine callP_mk (cmpStr_pure x.to y.to) ?_ | refine callP_mk (h4) ?_ | (refine callP_wk (cmpStr_pure x.fr y.fr) ?_ ?_; (· (simp; done))) | (refine callP_wk (cmpStr_pure x.lb y.lb) ?_ ?_; (· (simp; done))) | (refine callP_wk (cmpStr_pure x.to y.to) ?_ ?_; (· (simp; done))) | (refine callP_wk (h4) ?_ ?_; (· (simp; done)))); try simp [hnt, dEdge]) | (refine ⟨?_, ?_⟩; · omega) | omega | apply_assumption -exfalso -symm | (exfalso; omega)))

def anWE113 : Ann := ⟨[], [⟨3, [8], [], []⟩, ⟨6, [9], [], []⟩]⟩
theorem cmpFunc_pure (a b : List Edge) : DPure Tryz.prog 13 [dEds a, dEds b, .fn (.func 14) [] []] (.int .i64 (cmpL eCmp a b)) := by
  refine DPure_introF [] (fn := Tryz.f13) Tryz.func13 rfl Tryz.call13 (by simp [Tryz.ntmps13]) (by simp [mx]) ?_
  intro hwf B hnt
  simp only [Tryz.ntmps13] at hnt
  have hl1 := len_eds hwf.1
  have hl2 := len_eds hwf.2.1
  clear hwf
  simp only [argS]
  obtain ⟨R, hR⟩ : ∃ R, R = cmpL eCmp a b := ⟨_, rfl⟩
  rw [← hR]
  (repeat (first | refine DW_seq fun K hK => ?_ | (refine DW_r anWE113 Tryz.mixed (by kernel_rfl) ?_; simp [anWE113, hnt]; try simp (disch := omega) only [wrap64_in]) | refine DW_block ?_ | (refine DW_if ?_ ?_ ?_; (· (simp [hnt]; done)); (try (rotate_left; (· (intro hc; (try simp [hnt] at hc); done))))) | (refine DW_ret ?_; simp [Tryz.results13, hnt]) | ((first | refine DW_exit ?_ | refine DW_skip ?_); simp [hnt]) | (intro hc; (try simp [hnt] at hc); (try (exfalso; omega))) | (refine ⟨?_, ?_⟩; · omega) | omega | apply_assumption -exfalso -symm | (exfalso; omega)))
  refine DW_loop (X := {k : Nat // k ≤ a.length ∧ (a.length ≤ b.length ∨ k ≤ b.length) ∧ cmpL eCmp (a.drop k) (b.drop k) = R}) (fun k => ⟨[(0, dEds a), (1, dEds b), (2, .fn (.func 14) [] []), (11, dEds a), (12, .int .i64 a.length), (13, .int .i64 k.1)], []⟩) (fun k => a.length - k.1) ⟨0, by simp [hR]⟩ (Sub.lit (by simp)) ?_
  rintro ⟨k, hk, hkb, hw⟩
  simp only
  clear hR
  by_cases hlt : k < a.length
  · obtain ⟨x, hx, hx', _⟩ := at_lt' hlt
    by_cases h2 : k < b.length
    · obtain ⟨y, hy, hy', _⟩ := at_lt' h2
      rw [cmpL_at hx hy] at hw
      have e1 := byName_pure x y
      simp only [dEdge] at e1
      have h2' : ¬ b.length ≤ k := by omega
      by_cases hcc : eCmp x y = 0
      · rw [if_pos hcc] at hw
        have hcc' : (eCmp x y != 0) = false := by simpa using hcc
        (repeat (first | refine DW_seq fun K hK => ?_ | (refine DW_r anWE113 Tryz.mixed (by kernel_rfl) ?_; simp [anWE113, hnt, dEdge, hlt, h2, h2', hx, hx', hy, hy', hcc, hcc']; try simp (disch := omega) only [wrap64_in]) | refine DW_block ?_ | (refine DW_if ?_ ?_ ?_; (· (simp [hnt, dEdge, hlt, h2, h2', hx, hx', hy, hy', hcc, hcc']; done)); (try (rotate_left; (· (intro hc; (try simp [hnt, dEdge, hlt, h2, h2', hx, hx', hy, hy', hcc, hcc'] at hc); done))))) | (refine DW_ret ?_; simp [Tryz.results13, hnt, dEdge, hlt, h2, h2', hx, hx', hy, hy', hcc, hcc']) | ((first | refine DW_exit ?_ | refine DW_skip ?_); simp [hnt, dEdge, hlt, h2, h2', hx, hx', hy, hy', hcc, hcc']) | (intro hc; (try simp [hnt, dEdge, hlt, h2, h2', hx, hx', hy, hy', hcc, hcc'] at hc); (try (exfalso; omega))) | ((first | refine callP_mk (e1) ?_ | (refine callP_wk (e1) ?_ ?_; (· (simp; done)))); try simp [hnt, dEdge, hlt, h2, h2', hx, hx', hy, hy', hcc, hcc']) | (refine ⟨?_, ?_⟩; · omega) | omega | apply_assumption -exfalso -symm | (exfalso; omega)))
        refine Again.mk ⟨k + 1, by omega, by omega, hw⟩ (Sub.lit (by simp)) (by simp; omega)
        (repeat (first | refine DW_seq fun K hK => ?_ | (refine DW_r anWE113 Tryz.mixed (by kernel_rfl) ?_; simp [anWE113, hnt]; try simp (disch := omega) only [wrap64_in]) | refine DW_block ?_ | (refine DW_if ?_ ?_ ?_; (· (simp [hnt]; done)); (try (rotate_left; (· (intro hc; (try simp [hnt] at hc); done))))) | (refine DW_ret ?_; simp [Tryz.results13, hnt]) | ((first | refine DW_exit ?_ | refine DW_skip ?_); simp [hnt]) | (intro hc; (try simp [hnt] at hc); (try (exfalso; omega))) | ((first | refine callP_mk (e1) ?_ | (refine callP_wk (e1) ?_ ?_; (· (simp; done)))); try simp [hnt]) | (refine ⟨?_, ?_⟩; · omega) | omega | apply_assumption -exfalso -symm | (exfalso; omega)))
      · rw [if_neg hcc] at hw
        subst hw
        have hcc' : (eCmp x y != 0) = true := by simpa using hcc
        (repeat (first | refine DW_seq fun K hK => ?_ | (refine DW_r anWE113 Tryz.mixed (by kernel_rfl) ?_; simp [anWE113, hnt, dEdge, hlt, h2, h2', hx, hx', hy, hy', hcc, hcc']; try simp (disch := omega) only [wrap64_in]) | refine DW_block ?_ | (refine DW_if ?_ ?_ ?_; (· (simp [hnt, dEdge, hlt, h2, h2', hx, hx', hy, hy', hcc, hcc']; done)); (try (rotate_left; (· (intro hc; (try simp [hnt, dEdge, hlt, h2, h2', hx, hx', hy, hy', hcc, hcc'] at hc); done))))) | (refine DW_ret ?_; simp [Tryz.results13, hnt, dEdge, hlt, h2, h2', hx, hx', hy, hy', hcc, hcc']) | ((first | refine DW_exit ?_ | refine DW_skip ?_); simp [hnt, dEdge, hlt, h2, h2', hx, hx', hy, hy', hcc, hcc']) | (intro hc; (try simp [hnt, dEdge, hlt, h2, h2', hx, hx', hy, hy', hcc, hcc'] at hc); (try (exfalso; omega))) | ((first | refine callP_mk (e1) ?_ | (refine callP_wk (e1) ?_ ?_; (· (simp; done)))); try simp [hnt, dEdge, hlt, h2, h2', hx, hx', hy, hy', hcc, hcc']) | (refine ⟨?_, ?_⟩; · omega) | omega | apply_assumption -exfalso -symm | (exfalso; omega)))
    · rw [cmpL_gt hlt (by omega)] at hw
      subst hw
      have h2' : b.length ≤ k := by omega
      (repeat (first | refine DW_seq fun K hK => ?_ | (refine DW_r anWE113 Tryz.mixed (by kernel_rfl) ?_; simp [anWE113, hnt, dEdge, hlt, h2, h2', hx, hx']; try simp (disch := omega) only [wrap64_in]) | refine DW_block ?_ | (refine DW_if ?_ ?_ ?_; (· (simp [hnt, dEdge, hlt, h2, h2', hx, hx']; done)); (try (rotate_left; (· (intro hc; (try simp [hnt, dEdge, hlt, h2, h2', hx, hx'] at hc); done))))) | (refine DW_ret ?_; simp [Tryz.results13, hnt, dEdge, hlt, h2, h2', hx, hx']) | ((first | refine DW_exit ?_ | refine DW_skip ?_); simp [hnt, dEdge, hlt, h2, h2', hx, hx']) | (intro hc; (try simp [hnt, dEdge, hlt, h2, h2', hx, hx'] at hc); (try (exfalso; omega))) | (refine ⟨?_, ?_⟩; · omega) | omega | apply_assumption -exfalso -symm | (exfalso; omega)))
  · have hkk : k = a.length := by omega
    subst hkk
    rw [cmpL_le (Nat.le_refl _)] at hw
    by_cases h2 : a.length < b.length
    · rw [if_pos h2] at hw
      subst hw
      (repeat (first | refine DW_seq fun K hK => ?_ | (refine DW_r anWE113 Tryz.mixed (by kernel_rfl) ?_; simp [anWE113, hnt, h2]; try simp (disch := omega) only [wrap64_in]) | refine DW_block ?_ | (refine DW_if ?_ ?_ ?_; (· (simp [hnt, h2]; done)); (try (rotate_left; (· (intro hc; (try simp [hnt, h2] at hc); done))))) | (refine DW_ret ?_; simp [Tryz.results13, hnt, h2]) | ((first | refine DW_exit ?_ | refine DW_skip ?_); simp [hnt, h2]) | (intro hc; (try simp [hnt, h2] at hc); (try (exfalso; omega))) | (refine ⟨?_, ?_⟩; · omega) | omega | apply_assumption -exfalso -symm | (exfalso; omega)))
    · rw [if_neg h2] at hw
      subst hw
      (repeat (first | refine DW_seq fun K hK => ?_ | (refine DW_r anWE113 Tryz.mixed (by kernel_rfl) ?_; simp [anWE113, hnt, h2]; try simp (disch := omega) only [wrap64_in]) | refine DW_block ?_ | (refine DW_if ?_ ?_ ?_; (· (simp [hnt, h2]; done)); (try (rotate_left; (· (intro hc; (try simp [hnt, h2] at hc); done))))) | (refine DW_ret ?_; simp [Tryz.results13, hnt, h2]) | ((first | refine DW_exit ?_ | refine DW_skip ?_); simp [hnt, h2]) | (intro hc; (try simp [hnt, h2] at hc); (try (exfalso; omega))) | (refine ⟨?_, ?_⟩; · omega) | omega | apply_assumption -exfalso -symm | (exfalso; omega)))
def anWE14 : Ann := ⟨[], []⟩
theorem cmp4_pure (a b : List Edge) : DPure Tryz.prog 4 [dEds a, dEds b] (.int .i64 (wayC a b)) := by
  refine DPure_introF [] (fn := Tryz.f4) Tryz.func4 rfl Tryz.call4 (by simp [Tryz.ntmps4]) (by simp [mx]) ?_
  intro hwf B hnt
  simp only [Tryz.ntmps4] at hnt
  simp only [argS]
  have h1 := or2_pure (cmpI a.length b.length) (cmpL eCmp a b)
  rw [show (if cmpI a.length b.length = 0 then cmpL eCmp a b else cmpI a.length b.length) = wayC a b from rfl] at h1
  have hr2 : (([0, 1] : List Nat) = List.range 2) = True := eq_true rfl
  (repeat (first | refine DW_seq fun K hK => ?_ | (refine DW_r anWE14 Tryz.mixed (by kernel_rfl) ?_; simp [anWE14, hnt, hr2]; try simp (disch := omega) only [wrap64_in]) | refine DW_block ?_ | (refine DW_if ?_ ?_ ?_; (· (simp [hnt, hr2]; done)); (try (rotate_left; (· (intro hc; (try simp [hnt, hr2] at hc); done))))) | (refine DW_ret ?_; simp [Tryz.results4, hnt, hr2]) | ((first | refine DW_exit ?_ | refine DW_skip ?_); simp [hnt, hr2]) | (intro hc; (try simp [hnt, hr2] at hc); (try (exfalso; omega))) | ((first | refine callP_mk (cmpInt_pure a.length b.length) ?_ | refine callP_mk (cmpFunc_pure a b) ?_ | refine callP_mk (h1) ?_ | (refine callP_wk (cmpInt_pure a.length b.length) ?_ ?_; (· (simp; done))) | (refine callP_wk (cmpFunc_pure a b) ?_ ?_; (· (simp; done))) | (refine callP_wk (h1) ?_ ?_; (· (simp; done)))); try simp [hnt, hr2]) | (refine ⟨?_, ?_⟩; · omega) | omega | apply_assumption -exfalso -symm | (exfalso; omega)))

theorem edge_ne {s x : Edge} (hb : ¬ s = x) : (s.fr == x.fr && (s.lb == x.lb && s.to == x.to)) = false := by
  rw [Bool.eq_false_iff]
  intro hh
  simp only [Bool.and_eq_true, beq_iff_eq] at hh
  apply hb
  cases s; cases x
  simp only at hh
  rw [hh.1, hh.2.1, hh.2.2]
def anWE123 : Ann := ⟨[], []⟩
theorem edgeLess_pure (x y : Edge) : DPure Tryz.prog 23 [.agg (dEdge x), .agg (dEdge y)] (.bool (eLess x y)) := by
  refine DPure_introF [] (fn := Tryz.f23) Tryz.func23 rfl Tryz.call23 (by simp [Tryz.ntmps23]) (by simp [mx]) ?_
  intro hwf B hnt
  simp only [Tryz.ntmps23] at hnt
  simp only [argS]
  unfold eLess
  by_cases h1 : x.fr = y.fr
  · by_cases h2 : x.lb = y.lb
    · simp only [h1, h2, ne_eq, not_true, if_false]
      (repeat (first | refine DW_seq fun K hK => ?_ | (refine DW_r anWE123 Tryz.mixed (by kernel_rfl) ?_; simp [anWE123, hnt, dEdge, h1, h2, sLess]; try simp (disch := omega) only [wrap64_in]) | refine DW_block ?_ | (refine DW_if ?_ ?_ ?_; (· (simp [hnt, dEdge, h1, h2, sLess]; done)); (try (rotate_left; (· (intro hc; (try simp [hnt, dEdge, h1, h2, sLess] at hc); done))))) | (refine DW_ret ?_; simp [Tryz.results23, hnt, dEdge, h1, h2, sLess]) | ((first | refine DW_exit ?_ | refine DW_skip ?_); simp [hnt, dEdge, h1, h2, sLess]) | (intro hc; (try simp [hnt, dEdge, h1, h2, sLess] at hc); (try (exfalso; omega))) | (refine ⟨?_, ?_⟩; · omega) | omega | apply_assumption -exfalso -symm | (exfalso; omega)))
    · have h2' := str_ne h2
      simp only [h1, h2, ne_eq, not_true, not_false_eq_true, if_false, if_true]
      (repeat (first | refine DW_seq fun K hK => ?_ | (refine DW_r anWE123 Tryz.mixed (by kernel_rfl) ?_; simp [anWE123, hnt, dEdge, h1, h2, h2', sLess]; try simp (disch := omega) only [wrap64_in]) | refine DW_block ?_ | (refine DW_if ?_ ?_ ?_; (· (simp [hnt, dEdge, h1, h2, h2', sLess]; done)); (try (rotate_left; (· (intro hc; (try simp [hnt, dEdge, h1, h2, h2', sLess] at hc); done))))) | (refine DW_ret ?_; simp [Tryz.results23, hnt, dEdge, h1, h2, h2', sLess]) | ((first | refine DW_exit ?_ | refine DW_skip ?_); simp [hnt, dEdge, h1, h2, h2', sLess]) | (intro hc; (try simp [hnt, dEdge, h1, h2, h2', sLess] at hc); (try (exfalso; omega))) | (refine ⟨?_, ?_⟩; · omega) | omega | apply_assumption -exfalso -symm | (exfalso; omega)))
  · have h1' := str_ne h1
    simp only [h1, ne_eq, not_false_eq_true, if_true]
    (repeat (first | refine DW_seq fun K hK => ?_ | (refine DW_r anWE123 Tryz.mixed (by kernel_rfl) ?_; simp [anWE123, hnt, dEdge, h1, h1', sLess]; try simp (disch := omega) only [wrap64_in]) | refine DW_block ?_ | (refine DW_if ?_ ?_ ?_; (· (simp [hnt, dEdge, h1, h1', sLess]; done)); (try (rotate_left; (· (intro hc; (try simp [hnt, dEdge, h1, h1', sLess] at hc); done))))) | (refine DW_ret ?_; simp [Tryz.results23, hnt, dEdge, h1, h1', sLess]) | ((first | refine DW_exit ?_ | refine DW_skip ?_); simp [hnt, dEdge, h1, h1', sLess]) | (intro hc; (try simp [hnt, dEdge, h1, h1', sLess] at hc); (try (exfalso; omega))) | (refine ⟨?_, ?_⟩; · omega) | omega | apply_assumption -exfalso -symm | (exfalso; omega)))

def anWE115 : Ann := ⟨[], []⟩
theorem less15_pure (a b : List Edge) : DPure Tryz.prog 15 [dEds a, dEds b] (.bool (lessW a b)) := by
  refine DPure_introF [] (fn := Tryz.f15) Tryz.func15 rfl Tryz.call15 (by simp [Tryz.ntmps15]) (by simp [mx]) ?_
  intro hwf B hnt
  simp only [Tryz.ntmps15] at hnt
  have hl1 := len_eds hwf.1
  have hl2 := len_eds hwf.2.1
  clear hwf
  simp only [argS]
  unfold lessW
  by_cases he : a.length = b.length
  · rw [if_pos he]
    have he' : (a.length : Int) = (b.length : Int) := by omega
    obtain ⟨R, hR⟩ : ∃ R, R = lessL a b := ⟨_, rfl⟩
    rw [← hR]
    (repeat (first | refine DW_seq fun K hK => ?_ | (refine DW_r anWE115 Tryz.mixed (by kernel_rfl) ?_; simp [anWE115, hnt, he, he']; try simp (disch := omega) only [wrap64_in]) | refine DW_block ?_ | (refine DW_if ?_ ?_ ?_; (· (simp [hnt, he, he']; done)); (try (rotate_left; (· (intro hc; (try simp [hnt, he, he'] at hc); done))))) | (refine DW_ret ?_; simp [Tryz.results15, hnt, he, he']) | ((first | refine DW_exit ?_ | refine DW_skip ?_); simp [hnt, he, he']) | (intro hc; (try simp [hnt, he, he'] at hc); (try (exfalso; omega))) | (refine ⟨?_, ?_⟩; · omega) | omega | apply_assumption -exfalso -symm | (exfalso; omega)))
    refine DW_loop (X := {k : Nat // k ≤ a.length ∧ lessL (a.drop k) (b.drop k) = R}) (fun k => ⟨[(0, dEds a), (1, dEds b), (5, .int .i64 k.1)], []⟩) (fun k => a.length - k.1) ⟨0, by simp [hR]⟩ (Sub.lit (by simp)) ?_
    rintro ⟨k, hk, hw⟩
    simp only
    clear hR
    by_cases hlt : k < a.length
    · obtain ⟨x, hx, hx', _⟩ := at_lt' hlt
      have h2 : k < b.length := by omega
      obtain ⟨y, hy, hy', _⟩ := at_lt' h2
      rw [lessL_at hx hy] at hw
      have e1 := edgeLess_pure x y
      simp only [dEdge] at e1
      by_cases hcc : x = y
      · subst hcc
        simp only [if_true] at hw
        (repeat (first | refine DW_seq fun K hK => ?_ | (refine DW_r anWE115 Tryz.mixed (by kernel_rfl) ?_; simp [anWE115, hnt, dEdge, hlt, h2, hx, hx', hy, hy']; try simp (disch := omega) only [wrap64_in]) | refine DW_block ?_ | (refine DW_if ?_ ?_ ?_; (· (simp [hnt, dEdge, hlt, h2, hx, hx', hy, hy']; done)); (try (rotate_left; (· (intro hc; (try simp [hnt, dEdge, hlt, h2, hx, hx', hy, hy'] at hc); done))))) | (refine DW_ret ?_; simp [Tryz.results15, hnt, dEdge, hlt, h2, hx, hx', hy, hy']) | ((first | refine DW_exit ?_ | refine DW_skip ?_); simp [hnt, dEdge, hlt, h2, hx, hx', hy, hy']) | (intro hc; (try simp [hnt, dEdge, hlt, h2, hx, hx', hy, hy'] at hc); (try (exfalso; omega))) | ((first | refine callP_mk (e1) ?_ | (refine callP_wk (e1) ?_ ?_; (· (simp; done)))); try simp [hnt, dEdge, hlt, h2, hx, hx', hy, hy']) | (refine ⟨?_, ?_⟩; · omega) | omega | apply_assumption -exfalso -symm | (exfalso; omega)))
        refine Again.mk ⟨k + 1, by omega, hw⟩ (Sub.lit (by simp)) (by simp; omega)
        (repeat (first | refine DW_seq fun K hK => ?_ | (refine DW_r anWE115 Tryz.mixed (by kernel_rfl) ?_; simp [anWE115, hnt]; try simp (disch := omega) only [wrap64_in]) | refine DW_block ?_ | (refine DW_if ?_ ?_ ?_; (· (simp [hnt]; done)); (try (rotate_left; (· (intro hc; (try simp [hnt] at hc); done))))) | (refine DW_ret ?_; simp [Tryz.results15, hnt]) | ((first | refine DW_exit ?_ | refine DW_skip ?_); simp [hnt]) | (intro hc; (try simp [hnt] at hc); (try (exfalso; omega))) | ((first | refine callP_mk (e1) ?_ | (refine callP_wk (e1) ?_ ?_; (· (simp; done)))); try simp [hnt]) | (refine ⟨?_, ?_⟩; · omega) | omega | apply_assumption -exfalso -symm | (exfalso; omega)))
      · rw [if_neg hcc] at hw
        subst hw
        have hcc' := edge_ne hcc
        (repeat (first | refine DW_seq fun K hK => ?_ | (refine DW_r anWE115 Tryz.mixed (by kernel_rfl) ?_; simp [anWE115, hnt, dEdge, hlt, h2, hx, hx', hy, hy', hcc']; try simp (disch := omega) only [wrap64_in]) | refine DW_block ?_ | (refine DW_if ?_ ?_ ?_; (· (simp [hnt, dEdge, hlt, h2, hx, hx', hy, hy', hcc']; done)); (try (rotate_left; (· (intro hc; (try simp [hnt, dEdge, hlt, h2, hx, hx', hy, hy', hcc'] at hc); done))))) | (refine DW_ret ?_; simp [Tryz.results15, hnt, dEdge, hlt, h2, hx, hx', hy, hy', hcc']) | ((first | refine DW_exit ?_ | refine DW_skip ?_); simp [hnt, dEdge, hlt, h2, hx, hx', hy, hy', hcc']) | (intro hc; (try simp [hnt, dEdge, hlt, h2, hx, hx', hy, hy', hcc'] at hc); (try (exfalso; omega))) | ((first | refine callP_mk (e1) ?_ | (refine callP_wk (e1) ?_ ?_; (· (simp; done)))); try simp [hnt, dEdge, hlt, h2, hx, hx', hy, hy', hcc']) | (refine ⟨?_, ?_⟩; · omega) | omega | apply_assumption -exfalso -symm | (exfalso; omega)))
    · have hkk : k = a.length := by omega
      subst hkk
      rw [List.drop_length] at hw
      simp only [lessL] at hw
      subst hw
      (repeat (first | refine DW_seq fun K hK => ?_ | (refine DW_r anWE115 Tryz.mixed (by kernel_rfl) ?_; simp [anWE115, hnt]; try simp (disch := omega) only [wrap64_in]) | refine DW_block ?_ | (refine DW_if ?_ ?_ ?_; (· (simp [hnt]; done)); (try (rotate_left; (· (intro hc; (try simp [hnt] at hc); done))))) | (refine DW_ret ?_; simp [Tryz.results15, hnt]) | ((first | refine DW_exit ?_ | refine DW_skip ?_); simp [hnt]) | (intro hc; (try simp [hnt] at hc); (try (exfalso; omega))) | (refine ⟨?_, ?_⟩; · omega) | omega | apply_assumption -exfalso -symm | (exfalso; omega)))
  · rw [if_neg he]
    have he' : ¬ (a.length : Int) = (b.length : Int) := by omega
    have he2 : ((a.length : Int) == (b.length : Int)) = false := by simpa using he'
    (repeat (first | refine DW_seq fun K hK => ?_ | (refine DW_r anWE115 Tryz.mixed (by kernel_rfl) ?_; simp [anWE115, hnt, he, he', he2]; try simp (disch := omega) only [wrap64_in]) | refine DW_block ?_ | (refine DW_if ?_ ?_ ?_; (· (simp [hnt, he, he', he2]; done)); (try (rotate_left; (· (intro hc; (try simp [hnt, he, he', he2] at hc); done))))) | (refine DW_ret ?_; simp [Tryz.results15, hnt, he, he', he2]) | ((first | refine DW_exit ?_ | refine DW_skip ?_); simp [hnt, he, he', he2]) | (intro hc; (try simp [hnt, he, he', he2] at hc); (try (exfalso; omega))) | (refine ⟨?_, ?_⟩; · omega) | omega | apply_assumption -exfalso -symm | (exfalso; omega)))
def anWE15 : Ann := ⟨[], []⟩
theorem cmp5_pure (a b : List Edge) : DPure Tryz.prog 5 [dEds a, dEds b] (.int .i64 (wayC a b)) := by
  refine DPure_introF [] (fn := Tryz.f5) Tryz.func5 rfl Tryz.call5 (by simp [Tryz.ntmps5]) (by simp [mx]) ?_
  intro hwf B hnt
  simp only [Tryz.ntmps5] at hnt
  simp only [argS]
  rw [← cmpR_eq]
  have h1 := less15_pure a b
  have h2 := less15_pure b a
  cases g1 : lessW a b <;> cases g2 : lessW b a <;> (repeat (first | refine DW_seq fun K hK => ?_ | (refine DW_r anWE15 Tryz.mixed (by kernel_rfl) ?_; simp [anWE15, hnt, g1, g2]; try simp (disch := omega) only [wrap64_in]) | refine DW_block ?_ | (refine DW_if ?_ ?_ ?_; (· (simp [hnt, g1, g2]; done)); (try (rotate_left; (· (intro hc; (try simp [hnt, g1, g2] at hc); done))))) | (refine DW_ret ?_; simp [Tryz.results5, hnt, g1, g2]) | ((first | refine DW_exit ?_ | refine DW_skip ?_); simp [hnt, g1, g2]) | (intro hc; (try simp [hnt, g1, g2] at hc); (try (exfalso; omega))) | ((first | refine callP_mk (h1) ?_ | refine callP_mk (h2) ?_ | (refine callP_wk (h1) ?_ ?_; (· (simp; done))) | (refine callP_wk (h2) ?_ ?_; (· (simp; done)))); try simp [hnt, g1, g2]) | (refine ⟨?_, ?_⟩; · omega) | omega | apply_assumption -exfalso -symm | (exfalso; omega)))
end Go.Proofs.YtffdjbdokgbibaaGreat
end

section
/- letters, names, labels -/

set_option linter.unusedSimpArgs false
set_option linter.unusedVariables false
namespace Go.Proofs.YtffdjbdokgbibaaGreat
open Go Go.Dm
attribute [local irreducible] DW callP callS
set_option maxRecDepth 100000

def letB (n : Int) : Bool := (decide (97 ≤ n) && decide (n ≤ 122)) || (decide (65 ≤ n) && decide (n ≤ 90)) || (decide (48 ≤ n) && decide (n ≤ 57)) || n == 95
def anWB157 : Ann := ⟨[], []⟩
theorem letter_pure (n : Int) : DPure Tryz.prog 57 [.int .u8 n] (.bool (letB n)) := by
  refine DPure_introF [] (fn := Tryz.f57) Tryz.func57 rfl Tryz.call57 (by simp [Tryz.ntmps57]) (by simp [mx]) ?_
  intro hwf B hnt
  simp only [Tryz.ntmps57] at hnt
  simp only [argS]
  by_cases h1 : 97 ≤ n
  · have h3 : 65 ≤ n := by omega
    have h5 : 48 ≤ n := by omega
    have h4 : ¬ n ≤ 90 := by omega
    have h6 : ¬ n ≤ 57 := by omega
    have h7 : ¬ n = 95 := by omega
    by_cases h2 : n ≤ 122
    · (repeat (first | refine DW_seq fun K hK => ?_ | (refine DW_r anWB157 Tryz.mixed (by kernel_rfl) ?_; simp [anWB157, hnt, letB, h1, h2]; try simp (disch := omega) only [wrap64_in]) | refine DW_block ?_ | (refine DW_if ?_ ?_ ?_; (· (simp [hnt, letB, h1, h2]; done)); (try (rotate_left; (· (intro hc; (try simp [hnt, letB, h1, h2] at hc); done))))) | (refine DW_ret ?_; simp [Tryz.results57, hnt, letB, h1, h2]) | ((first | refine DW_exit ?_ | refine DW_skip ?_); simp [hnt, letB, h1, h2]) | (intro hc; (try simp [hnt, letB, h1, h2] at hc); (try (exfalso; omega))) | (refine ⟨?_, ?_⟩; · omega) | omega | apply_assumption -exfalso -symm | (exfalso; omega)))
    · (repeat (first | refine DW_seq fun K hK => ?_ | (refine DW_r anWB157 Tryz.mixed (by kernel_rfl) ?_; simp [anWB157, hnt, letB, h1, h2, h3, h4, h5, h6, h7]; try simp (disch := omega) only [wrap64_in]) | refine DW_block ?_ | (refine DW_if ?_ ?_ ?_; (· (simp [hnt, letB, h1, h2, h3, h4, h5, h6, h7]; done)); (try (rotate_left; (· (intro hc; (try simp [hnt, letB, h1, h2, h3, h4, h5, h6, h7] at hc); done))))) | (refine DW_ret ?_; simp [Tryz.results57, hnt, letB, h1, h2, h3, h4, h5, h6, h7]) | ((first | refine DW_exit ?_ | refine DW_skip ?_); simp [hnt, letB, h1, h2, h3, h4, h5, h6, h7]) | (intro hc; (try simp [hnt, letB, h1, h2, h3, h4, h5, h6, h7] at hc); (try (exfalso; omega))) | (refine ⟨?_, ?_⟩; · omega) | omega | apply_assumption -exfalso -symm | (exfalso; omega)))
  · by_cases h3 : 65 ≤ n
    · have h5 : 48 ≤ n := by omega
      have h6 : ¬ n ≤ 57 := by omega
      by_cases h4 : n ≤ 90
      · (repeat (first | refine DW_seq fun K hK => ?_ | (refine DW_r anWB157 Tryz.mixed (by kernel_rfl) ?_; simp [anWB157, hnt, letB, h1, h3, h4]; try simp (disch := omega) only [wrap64_in]) | refine DW_block ?_ | (refine DW_if ?_ ?_ ?_; (· (simp [hnt, letB, h1, h3, h4]; done)); (try (rotate_left; (· (intro hc; (try simp [hnt, letB, h1, h3, h4] at hc); done))))) | (refine DW_ret ?_; simp [Tryz.results57, hnt, letB, h1, h3, h4]) | ((first | refine DW_exit ?_ | refine DW_skip ?_); simp [hnt, letB, h1, h3, h4]) | (intro hc; (try simp [hnt, letB, h1, h3, h4] at hc); (try (exfalso; omega))) | (refine ⟨?_, ?_⟩; · omega) | omega | apply_assumption -exfalso -symm | (exfalso; omega)))
      · by_cases h7 : n = 95
        · subst h7
          (repeat (first | refine DW_seq fun K hK => ?_ | (refine DW_r anWB157 Tryz.mixed (by kernel_rfl) ?_; simp [anWB157, hnt, letB]; try simp (disch := omega) only [wrap64_in]) | refine DW_block ?_ | (refine DW_if ?_ ?_ ?_; (· (simp [hnt, letB]; done)); (try (rotate_left; (· (intro hc; (try simp [hnt, letB] at hc); done))))) | (refine DW_ret ?_; simp [Tryz.results57, hnt, letB]) | ((first | refine DW_exit ?_ | refine DW_skip ?_); simp [hnt, letB]) | (intro hc; (try simp [hnt, letB] at hc); (try (exfalso; omega))) | (refine ⟨?_, ?_⟩; · omega) | omega | apply_assumption -exfalso -symm | (exfalso; omega)))
        · (repeat (first | refine DW_seq fun K hK => ?_ | (refine DW_r anWB157 Tryz.mixed (by kernel_rfl) ?_; simp [anWB157, hnt, letB, h1, h3, h4, h5, h6, h7]; try simp (disch := omega) only [wrap64_in]) | refine DW_block ?_ | (refine DW_if ?_ ?_ ?_; (· (simp [hnt, letB, h1, h3, h4, h5, h6, h7]; done)); (try (rotate_left; (· (intro hc; (try simp [hnt, letB, h1, h3, h4, h5, h6, h7] at hc); done))))) | (refine DW_ret ?_; simp [Tryz.results57, hnt, letB, h1, h3, h4, h5, h6, h7]) | ((first | refine DW_exit ?_ | refine DW_skip ?_); simp [hnt, letB, h1, h3, h4, h5, h6, h7]) | (intro hc; (try simp [hnt, letB, h1, h3, h4, h5, h6, h7] at hc); (try (exfalso; omega))) | (refine ⟨?_, ?_⟩; · omega) | omega | apply_assumption -exfalso -symm | (exfalso; omega)))
    · have h7 : ¬ n = 95 := by omega
      by_cases h5 : 48 ≤ n
      · by_cases h6 : n ≤ 57
        · (repeat (first | refine DW_seq fun K hK => ?_ | (refine DW_r anWB157 Tryz.mixed (by kernel_rfl) ?_; simp [anWB157, hnt, letB, h1, h3, h5, h6]; try simp (disch := omega) only [wrap64_in]) | refine DW_block ?_ | (refine DW_if ?_ ?_ ?_; (· (simp [hnt, letB, h1, h3, h5, h6]; done)); (try (rotate_left; (· (intro hc; (try simp [hnt, letB, h1, h3, h5, h6] at hc); done))))) | (refine DW_ret ?_; simp [Tryz.results57, hnt, letB, h1, h3, h5, h6]) | ((first | refine DW_exit ?_ | refine DW_skip ?_); simp [hnt, letB, h1, h3, h5, h6]) | (intro hc; (try simp [hnt, letB, h1, h3, h5, h6] at hc); (try (exfalso; omega))) | (refine ⟨?_, ?_⟩; · omega) | omega | apply_assumption -exfalso -symm | (exfalso; omega)))
        · (repeat (first | refine DW_seq fun K hK => ?_ | (refine DW_r anWB157 Tryz.mixed (by kernel_rfl) ?_; simp [anWB157, hnt, letB, h1, h3, h5, h6, h7]; try simp (disch := omega) only [wrap64_in]) | refine DW_block ?_ | (refine DW_if ?_ ?_ ?_; (· (simp [hnt, letB, h1, h3, h5, h6, h7]; done)); (try (rotate_left; (· (intro hc; (try simp [hnt, letB, h1, h3, h5, h6, h7] at hc); done))))) | (refine DW_ret ?_; simp [Tryz.results57, hnt, letB, h1, h3, h5, h6, h7]) | ((first | refine DW_exit ?_ | refine DW_skip ?_); simp [hnt, letB, h1, h3, h5, h6, h7]) | (intro hc; (try simp [hnt, letB, h1, h3, h5, h6, h7] at hc); (try (exfalso; omega))) | (refine ⟨?_, ?_⟩; · omega) | omega | apply_assumption -exfalso -symm | (exfalso; omega)))
      · (repeat (first | refine DW_seq fun K hK => ?_ | (refine DW_r anWB157 Tryz.mixed (by kernel_rfl) ?_; simp [anWB157, hnt, letB, h1, h3, h5, h7]; try simp (disch := omega) only [wrap64_in]) | refine DW_block ?_ | (refine DW_if ?_ ?_ ?_; (· (simp [hnt, letB, h1, h3, h5, h7]; done)); (try (rotate_left; (· (intro hc; (try simp [hnt, letB, h1, h3, h5, h7] at hc); done))))) | (refine DW_ret ?_; simp [Tryz.results57, hnt, letB, h1, h3, h5, h7]) | ((first | refine DW_exit ?_ | refine DW_skip ?_); simp [hnt, letB, h1, h3, h5, h7]) | (intro hc; (try simp [hnt, letB, h1, h3, h5, h7] at hc); (try (exfalso; omega))) | (refine ⟨?_, ?_⟩; · omega) | omega | apply_assumption -exfalso -symm | (exfalso; omega)))
def anWB149 : Ann := ⟨[], []⟩
theorem inner_pure (n : Int) : DPure Tryz.prog 49 [.int .u8 n] (.bool (letB n)) := by
  refine DPure_introF [] (fn := Tryz.f49) Tryz.func49 rfl Tryz.call49 (by simp [Tryz.ntmps49]) (by simp [mx]) ?_
  intro hwf B hnt
  simp only [Tryz.ntmps49] at hnt
  simp only [argS]
  by_cases h1 : 97 ≤ n
  · have h3 : 65 ≤ n := by omega
    have h5 : 48 ≤ n := by omega
    have h4 : ¬ n ≤ 90 := by omega
    have h6 : ¬ n ≤ 57 := by omega
    have h7 : ¬ n = 95 := by omega
    by_cases h2 : n ≤ 122
    · (repeat (first | refine DW_seq fun K hK => ?_ | (refine DW_r anWB149 Tryz.mixed (by kernel_rfl) ?_; simp [anWB149, hnt, letB, h1, h2]; try simp (disch := omega) only [wrap64_in]) | refine DW_block ?_ | (refine DW_if ?_ ?_ ?_; (· (simp [hnt, letB, h1, h2]; done)); (try (rotate_left; (· (intro hc; (try simp [hnt, letB, h1, h2] at hc); done))))) | (refine DW_ret ?_; simp [Tryz.results49, hnt, letB, h1, h2]) | ((first | refine DW_exit ?_ | refine DW_skip ?_); simp [hnt, letB, h1, h2]) | (intro hc; (try simp [hnt, letB, h1, h2] at hc); (try (exfalso; omega))) | (refine ⟨?_, ?_⟩; · omega) | omega | apply_assumption -exfalso -symm | (exfalso; omega)))
    · (repeat (first | refine DW_seq fun K hK => ?_ | (refine DW_r anWB149 Tryz.mixed (by kernel_rfl) ?_; simp [anWB149, hnt, letB, h1, h2, h3, h4, h5, h6, h7]; try simp (disch := omega) only [wrap64_in]) | refine DW_block ?_ | (refine DW_if ?_ ?_ ?_; (· (simp [hnt, letB, h1, h2, h3, h4, h5, h6, h7]; done)); (try (rotate_left; (· (intro hc; (try simp [hnt, letB, h1, h2, h3, h4, h5, h6, h7] at hc); done))))) | (refine DW_ret ?_; simp [Tryz.results49, hnt, letB, h1, h2, h3, h4, h5, h6, h7]) | ((first | refine DW_exit ?_ | refine DW_skip ?_); simp [hnt, letB, h1, h2, h3, h4, h5, h6, h7]) | (intro hc; (try simp [hnt, letB, h1, h2, h3, h4, h5, h6, h7] at hc); (try (exfalso; omega))) | (refine ⟨?_, ?_⟩; · omega) | omega | apply_assumption -exfalso -symm | (exfalso; omega)))
  · by_cases h3 : 65 ≤ n
    · have h5 : 48 ≤ n := by omega
      have h6 : ¬ n ≤ 57 := by omega
      by_cases h4 : n ≤ 90
      · (repeat (first | refine DW_seq fun K hK => ?_ | (refine DW_r anWB149 Tryz.mixed (by kernel_rfl) ?_; simp [anWB149, hnt, letB, h1, h3, h4]; try simp (disch := omega) only [wrap64_in]) | refine DW_block ?_ | (refine DW_if ?_ ?_ ?_; (· (simp [hnt, letB, h1, h3, h4]; done)); (try (rotate_left; (· (intro hc; (try simp [hnt, letB, h1, h3, h4] at hc); done))))) | (refine DW_ret ?_; simp [Tryz.results49, hnt, letB, h1, h3, h4]) | ((first | refine DW_exit ?_ | refine DW_skip ?_); simp [hnt, letB, h1, h3, h4]) | (intro hc; (try simp [hnt, letB, h1, h3, h4] at hc); (try (exfalso; omega))) | (refine ⟨?_, ?_⟩; · omega) | omega | apply_assumption -exfalso -symm | (exfalso; omega)))
      · by_cases h7 : n = 95
        · subst h7
          (repeat (first | refine DW_seq fun K hK => ?_ | (refine DW_r anWB149 Tryz.mixed (by kernel_rfl) ?_; simp [anWB149, hnt, letB]; try simp (disch := omega) only [wrap64_in]) | refine DW_block ?_ | (refine DW_if ?_ ?_ ?_; (· (simp [hnt, letB]; done)); (try (rotate_left; (· (intro hc; (try simp [hnt, letB] at hc); done))))) | (refine DW_ret ?_; simp [Tryz.results49, hnt, letB]) | ((first | refine DW_exit ?_ | refine DW_skip ?_); simp [hnt, letB]) | (intro hc; (try simp [hnt, letB] at hc); (try (exfalso; omega))) | (refine ⟨?_, ?_⟩; · omega) | omega | apply_assumption -exfalso -symm | (exfalso; omega)))
        · (repeat (first | refine DW_seq fun K hK => ?_ | (refine DW_r anWB149 Tryz.mixed (by kernel_rfl) ?_; simp [anWB149, hnt, letB, h1, h3, h4, h5, h6, h7]; try simp (disch := omega) only [wrap64_in]) | refine DW_block ?_ | (refine DW_if ?_ ?_ ?_; (· (simp [hnt, letB, h1, h3, h4, h5, h6, h7]; done)); (try (rotate_left; (· (intro hc; (try simp [hnt, letB, h1, h3, h4, h5, h6, h7] at hc); done))))) | (refine DW_ret ?_; simp [Tryz.results49, hnt, letB, h1, h3, h4, h5, h6, h7]) | ((first | refine DW_exit ?_ | refine DW_skip ?_); simp [hnt, letB, h1, h3, h4, h5, h6, h7]) | (intro hc; (try simp [hnt, letB, h1, h3, h4, h5, h6, h7] at hc); (try (exfalso; omega))) | (refine ⟨?_, ?_⟩; · omega) | omega | apply_assumption -exfalso -symm | (exfalso; omega)))
    · have h7 : ¬ n = 95 := by omega
      by_cases h5 : 48 ≤ n
      · by_cases h6 : n ≤ 57
        · (repeat (first | refine DW_seq fun K hK => ?_ | (refine DW_r anWB149 Tryz.mixed (by kernel_rfl) ?_; simp [anWB149, hnt, letB, h1, h3, h5, h6]; try simp (disch := omega) only [wrap64_in]) | refine DW_block ?_ | (refine DW_if ?_ ?_ ?_; (· (simp [hnt, letB, h1, h3, h5, h6]; done)); (try (rotate_left; (· (intro hc; (try simp [hnt, letB, h1, h3, h5, h6] at hc); done))))) | (refine DW_ret ?_; simp [Tryz.results49, hnt, letB, h1, h3, h5, h6]) | ((first | refine DW_exit ?_ | refine DW_skip ?_); simp [hnt, letB, h1, h3, h5, h6]) | (intro hc; (try simp [hnt, letB, h1, h3, h5, h6] at hc); (try (exfalso; omega))) | (refine ⟨?_, ?_⟩; · omega) | omega | apply_assumption -exfalso -symm | (exfalso; omega)))
        · (repeat (first | refine DW_seq fun K hK => ?_ | (refine DW_r anWB149 Tryz.mixed (by kernel_rfl) ?_; simp [anWB149, hnt, letB, h1, h3, h5, h6, h7]; try simp (disch := omega) only [wrap64_in]) | refine DW_block ?_ | (refine DW_if ?_ ?_ ?_; (· (simp [hnt, letB, h1, h3, h5, h6, h7]; done)); (try (rotate_left; (· (intro hc; (try simp [hnt, letB, h1, h3, h5, h6, h7] at hc); done))))) | (refine DW_ret ?_; simp [Tryz.results49, hnt, letB, h1, h3, h5, h6, h7]) | ((first | refine DW_exit ?_ | refine DW_skip ?_); simp [hnt, letB, h1, h3, h5, h6, h7]) | (intro hc; (try simp [hnt, letB, h1, h3, h5, h6, h7] at hc); (try (exfalso; omega))) | (refine ⟨?_, ?_⟩; · omega) | omega | apply_assumption -exfalso -symm | (exfalso; omega)))
      · (repeat (first | refine DW_seq fun K hK => ?_ | (refine DW_r anWB149 Tryz.mixed (by kernel_rfl) ?_; simp [anWB149, hnt, letB, h1, h3, h5, h7]; try simp (disch := omega) only [wrap64_in]) | refine DW_block ?_ | (refine DW_if ?_ ?_ ?_; (· (simp [hnt, letB, h1, h3, h5, h7]; done)); (try (rotate_left; (· (intro hc; (try simp [hnt, letB, h1, h3, h5, h7] at hc); done))))) | (refine DW_ret ?_; simp [Tryz.results49, hnt, letB, h1, h3, h5, h7]) | ((first | refine DW_exit ?_ | refine DW_skip ?_); simp [hnt, letB, h1, h3, h5, h7]) | (intro hc; (try simp [hnt, letB, h1, h3, h5, h7] at hc); (try (exfalso; omega))) | (refine ⟨?_, ?_⟩; · omega) | omega | apply_assumption -exfalso -symm | (exfalso; omega)))

def letS (s : ByteArray) : Bool := s.data.toList.all fun b => letB (b.toNat : Int)
def nameOK (s : ByteArray) : Bool := decide (1 ≤ s.size) && decide (s.size ≤ 16) && letS s
def lowS (s : ByteArray) : Bool := match s.data.toList with | [] => false | b :: _ => decide (97 ≤ b.toNat) && decide (b.toNat ≤ 122)
def labelOK (s : ByteArray) : Bool := nameOK s && lowS s
theorem size_toList (s : ByteArray) : s.data.toList.length = s.size := rfl

def anWB141 : Ann := ⟨[], []⟩
theorem name_pure (s : ByteArray) : DPure Tryz.prog 41 [.str s] (.bool (nameOK s)) := by
  refine DPure_introF [] (fn := Tryz.f41) Tryz.func41 rfl Tryz.call41 (by simp [Tryz.ntmps41]) (by simp [mx]) ?_
  intro hwf B hnt
  simp only [Tryz.ntmps41] at hnt
  simp only [argS]
  by_cases h1 : 1 ≤ s.size
  · by_cases h2 : s.size ≤ 16
    · have g1 : ¬ (s.size : Int) < 1 := by omega
      have g2 : ¬ (16 : Int) < s.size := by omega
      obtain ⟨R, hR⟩ : ∃ R, R = nameOK s := ⟨_, rfl⟩
      rw [← hR]
      (repeat (first | refine DW_seq fun K hK => ?_ | (refine DW_r anWB141 Tryz.mixed (by kernel_rfl) ?_; simp [anWB141, hnt, g1, g2, h1, h2]; try simp (disch := omega) only [wrap64_in]) | refine DW_block ?_ | (refine DW_if ?_ ?_ ?_; (· (simp [hnt, g1, g2, h1, h2]; done)); (try (rotate_left; (· (intro hc; (try simp [hnt, g1, g2, h1, h2] at hc); done))))) | (refine DW_ret ?_; simp [Tryz.results41, hnt, g1, g2, h1, h2]) | ((first | refine DW_exit ?_ | refine DW_skip ?_); simp [hnt, g1, g2, h1, h2]) | (intro hc; (try simp [hnt, g1, g2, h1, h2] at hc); (try (exfalso; omega))) | (refine ⟨?_, ?_⟩; · omega) | omega | apply_assumption -exfalso -symm | (exfalso; omega)))
      refine DW_loop (X := {k : Nat // k ≤ s.size ∧ letS s = ((s.data.toList.drop k).all fun b => letB (b.toNat : Int))}) (fun k => ⟨[(0, .str s), (3, .int .i64 k.1)], []⟩) (fun k => s.size - k.1) ⟨0, by simp [letS]⟩ (Sub.lit (by simp)) ?_
      rintro ⟨k, hk, hl⟩
      by_cases hlt : k < s.size
      · obtain ⟨b, hb, hb', _⟩ := at_lt' (show k < s.data.toList.length by rw [size_toList]; exact hlt)
        rw [List.drop_eq_getElem_cons (by rw [size_toList]; exact hlt), hb', List.all_cons] at hl
        have e1 := letter_pure (b.toNat : Int)
        cases hL : letB (b.toNat : Int)
        · rw [hL] at e1 hl
          have hR2 : R = false := by rw [hR]; unfold nameOK; rw [hl]; simp
          subst hR2
          (repeat (first | refine DW_seq fun K hK => ?_ | (refine DW_r anWB141 Tryz.mixed (by kernel_rfl) ?_; simp [anWB141, hnt, hlt, hb, hb']; try simp (disch := omega) only [wrap64_in]) | refine DW_block ?_ | (refine DW_if ?_ ?_ ?_; (· (simp [hnt, hlt, hb, hb']; done)); (try (rotate_left; (· (intro hc; (try simp [hnt, hlt, hb, hb'] at hc); done))))) | (refine DW_ret ?_; simp [Tryz.results41, hnt, hlt, hb, hb']) | ((first | refine DW_exit ?_ | refine DW_skip ?_); simp [hnt, hlt, hb, hb']) | (intro hc; (try simp [hnt, hlt, hb, hb'] at hc); (try (exfalso; omega))) | ((first | refine callP_mk (e1) ?_ | (refine callP_wk (e1) ?_ ?_; (· (simp; done)))); try simp [hnt, hlt, hb, hb']) | (refine ⟨?_, ?_⟩; · omega) | omega | apply_assumption -exfalso -symm | (exfalso; omega)))
        · rw [hL] at e1 hl
          simp only [Bool.true_and] at hl
          (repeat (first | refine DW_seq fun K hK => ?_ | (refine DW_r anWB141 Tryz.mixed (by kernel_rfl) ?_; simp [anWB141, hnt, hlt, hb, hb']; try simp (disch := omega) only [wrap64_in]) | refine DW_block ?_ | (refine DW_if ?_ ?_ ?_; (· (simp [hnt, hlt, hb, hb']; done)); (try (rotate_left; (· (intro hc; (try simp [hnt, hlt, hb, hb'] at hc); done))))) | (refine DW_ret ?_; simp [Tryz.results41, hnt, hlt, hb, hb']) | ((first | refine DW_exit ?_ | refine DW_skip ?_); simp [hnt, hlt, hb, hb']) | (intro hc; (try simp [hnt, hlt, hb, hb'] at hc); (try (exfalso; omega))) | ((first | refine callP_mk (e1) ?_ | (refine callP_wk (e1) ?_ ?_; (· (simp; done)))); try simp [hnt, hlt, hb, hb']) | (refine ⟨?_, ?_⟩; · omega) | omega | apply_assumption -exfalso -symm | (exfalso; omega)))
          refine Again.mk ⟨k + 1, by omega, hl⟩ (Sub.lit (by simp)) (by simp; omega)
          (repeat (first | refine DW_seq fun K hK => ?_ | (refine DW_r anWB141 Tryz.mixed (by kernel_rfl) ?_; simp [anWB141, hnt]; try simp (disch := omega) only [wrap64_in]) | refine DW_block ?_ | (refine DW_if ?_ ?_ ?_; (· (simp [hnt]; done)); (try (rotate_left; (· (intro hc; (try simp [hnt] at hc); done))))) | (refine DW_ret ?_; simp [Tryz.results41, hnt]) | ((first | refine DW_exit ?_ | refine DW_skip ?_); simp [hnt]) | (intro hc; (try simp [hnt] at hc); (try (exfalso; omega))) | ((first | refine callP_mk (e1) ?_ | (refine callP_wk (e1) ?_ ?_; (· (simp; done)))); try simp [hnt]) | (refine ⟨?_, ?_⟩; · omega) | omega | apply_assumption -exfalso -symm | (exfalso; omega)))
      · have hkk : k = s.size := by omega
        subst hkk
        rw [← size_toList, List.drop_length] at hl
        have hR2 : R = true := by rw [hR]; unfold nameOK; rw [hl]; simp [h1, h2]
        subst hR2
        (repeat (first | refine DW_seq fun K hK => ?_ | (refine DW_r anWB141 Tryz.mixed (by kernel_rfl) ?_; simp [anWB141, hnt]; try simp (disch := omega) only [wrap64_in]) | refine DW_block ?_ | (refine DW_if ?_ ?_ ?_; (· (simp [hnt]; done)); (try (rotate_left; (· (intro hc; (try simp [hnt] at hc); done))))) | (refine DW_ret ?_; simp [Tryz.results41, hnt]) | ((first | refine DW_exit ?_ | refine DW_skip ?_); simp [hnt]) | (intro hc; (try simp [hnt] at hc); (try (exfalso; omega))) | (refine ⟨?_, ?_⟩; · omega) | omega | apply_assumption -exfalso -symm | (exfalso; omega)))
    · have g1 : ¬ (s.size : Int) < 1 := by omega
      have g2 : (16 : Int) < s.size := by omega
      (repeat (first | refine DW_seq fun K hK => ?_ | (refine DW_r anWB141 Tryz.mixed (by kernel_rfl) ?_; simp [anWB141, hnt, g1, g2, h1, h2, nameOK]; try simp (disch := omega) only [wrap64_in]) | refine DW_block ?_ | (refine DW_if ?_ ?_ ?_; (· (simp [hnt, g1, g2, h1, h2, nameOK]; done)); (try (rotate_left; (· (intro hc; (try simp [hnt, g1, g2, h1, h2, nameOK] at hc); done))))) | (refine DW_ret ?_; simp [Tryz.results41, hnt, g1, g2, h1, h2, nameOK]) | ((first | refine DW_exit ?_ | refine DW_skip ?_); simp [hnt, g1, g2, h1, h2, nameOK]) | (intro hc; (try simp [hnt, g1, g2, h1, h2, nameOK] at hc); (try (exfalso; omega))) | (refine ⟨?_, ?_⟩; · omega) | omega | apply_assumption -exfalso -symm | (exfalso; omega)))
  · have g1 : (s.size : Int) < 1 := by omega
    (repeat (first | refine DW_seq fun K hK => ?_ | (refine DW_r anWB141 Tryz.mixed (by kernel_rfl) ?_; simp [anWB141, hnt, g1, h1, nameOK]; try simp (disch := omega) only [wrap64_in]) | refine DW_block ?_ | (refine DW_if ?_ ?_ ?_; (· (simp [hnt, g1, h1, nameOK]; done)); (try (rotate_left; (· (intro hc; (try simp [hnt, g1, h1, nameOK] at hc); done))))) | (refine DW_ret ?_; simp [Tryz.results41, hnt, g1, h1, nameOK]) | ((first | refine DW_exit ?_ | refine DW_skip ?_); simp [hnt, g1, h1, nameOK]) | (intro hc; (try simp [hnt, g1, h1, nameOK] at hc); (try (exfalso; omega))) | (refine ⟨?_, ?_⟩; · omega) | omega | apply_assumption -exfalso -symm | (exfalso; omega)))

def anWB126 : Ann := ⟨[], []⟩
theorem rname_pure (s : ByteArray) : DPure Tryz.prog 26 [.str s] (.bool (nameOK s)) := by
  refine DPure_introF [] (fn := Tryz.f26) Tryz.func26 rfl Tryz.call26 (by simp [Tryz.ntmps26]) (by simp [mx]) ?_
  intro hwf B hnt
  simp only [Tryz.ntmps26] at hnt
  simp only [argS]
  obtain ⟨R, hR⟩ : ∃ R, R = nameOK s := ⟨_, rfl⟩
  rw [← hR]
  have hsz : s.size ≤ 9223372036854775807 := by have := hwf.1; simp only [wfD, maxLen] at this; omega
  (repeat (first | refine DW_seq fun K hK => ?_ | (refine DW_r anWB126 Tryz.mixed (by kernel_rfl) ?_; simp [anWB126, hnt]; try simp (disch := omega) only [wrap64_in]) | refine DW_block ?_ | (refine DW_if ?_ ?_ ?_; (· (simp [hnt]; done)); (try (rotate_left; (· (intro hc; (try simp [hnt] at hc); done))))) | (refine DW_ret ?_; simp [Tryz.results26, hnt]) | ((first | refine DW_exit ?_ | refine DW_skip ?_); simp [hnt]) | (intro hc; (try simp [hnt] at hc); (try (exfalso; omega))) | (refine ⟨?_, ?_⟩; · omega) | omega | apply_assumption -exfalso -symm | (exfalso; omega)))
  refine DW_loop (X := {k : Nat // k ≤ s.size ∧ letS s = ((s.data.toList.drop k).all fun b => letB (b.toNat : Int))}) (fun k => ⟨[(0, .str s), (3, .int .i64 k.1)], []⟩) (fun k => s.size - k.1) ⟨0, by simp [letS]⟩ (Sub.lit (by simp)) ?_
  rintro ⟨k, hk, hl⟩
  by_cases hlt : k < s.size
  · obtain ⟨b, hb, hb', _⟩ := at_lt' (show k < s.data.toList.length by rw [size_toList]; exact hlt)
    rw [List.drop_eq_getElem_cons (by rw [size_toList]; exact hlt), hb', List.all_cons] at hl
    have e1 := inner_pure (b.toNat : Int)
    cases hL : letB (b.toNat : Int)
    · rw [hL] at e1 hl
      have hR2 : R = false := by rw [hR]; unfold nameOK; rw [hl]; simp
      subst hR2
      (repeat (first | refine DW_seq fun K hK => ?_ | (refine DW_r anWB126 Tryz.mixed (by kernel_rfl) ?_; simp [anWB126, hnt, hlt, hb, hb']; try simp (disch := omega) only [wrap64_in]) | refine DW_block ?_ | (refine DW_if ?_ ?_ ?_; (· (simp [hnt, hlt, hb, hb']; done)); (try (rotate_left; (· (intro hc; (try simp [hnt, hlt, hb, hb'] at hc); done))))) | (refine DW_ret ?_; simp [Tryz.results26, hnt, hlt, hb, hb']) | ((first | refine DW_exit ?_ | refine DW_skip ?_); simp [hnt, hlt, hb, hb']) | (intro hc; (try simp [hnt, hlt, hb, hb'] at hc); (try (exfalso; omega))) | ((first | refine callP_mk (e1) ?_ | (refine callP_wk (e1) ?_ ?_; (· (simp; done)))); try simp [hnt, hlt, hb, hb']) | (refine ⟨?_, ?_⟩; · omega) | omega | apply_assumption -exfalso -symm | (exfalso; omega)))
    · rw [hL] at e1 hl
      simp only [Bool.true_and] at hl
      (repeat (first | refine DW_seq fun K hK => ?_ | (refine DW_r anWB126 Tryz.mixed (by kernel_rfl) ?_; simp [anWB126, hnt, hlt, hb, hb']; try simp (disch := omega) only [wrap64_in]) | refine DW_block ?_ | (refine DW_if ?_ ?_ ?_; (· (simp [hnt, hlt, hb, hb']; done)); (try (rotate_left; (· (intro hc; (try simp [hnt, hlt, hb, hb'] at hc); done))))) | (refine DW_ret ?_; simp [Tryz.results26, hnt, hlt, hb, hb']) | ((first | refine DW_exit ?_ | refine DW_skip ?_); simp [hnt, hlt, hb, hb']) | (intro hc; (try simp [hnt, hlt, hb, hb'] at hc); (try (exfalso; omega))) | ((first | refine callP_mk (e1) ?_ | (refine callP_wk (e1) ?_ ?_; (· (simp; done)))); try simp [hnt, hlt, hb, hb']) | (refine ⟨?_, ?_⟩; · omega) | omega | apply_assumption -exfalso -symm | (exfalso; omega)))
      refine Again.mk ⟨k + 1, by omega, hl⟩ (Sub.lit (by simp)) (by simp; omega)
      (repeat (first | refine DW_seq fun K hK => ?_ | (refine DW_r anWB126 Tryz.mixed (by kernel_rfl) ?_; simp [anWB126, hnt]; try simp (disch := omega) only [wrap64_in]) | refine DW_block ?_ | (refine DW_if ?_ ?_ ?_; (· (simp [hnt]; done)); (try (rotate_left; (· (intro hc; (try simp [hnt] at hc); done))))) | (refine DW_ret ?_; simp [Tryz.results26, hnt]) | ((first | refine DW_exit ?_ | refine DW_skip ?_); simp [hnt]) | (intro hc; (try simp [hnt] at hc); (try (exfalso; omega))) | ((first | refine callP_mk (e1) ?_ | (refine callP_wk (e1) ?_ ?_; (· (simp; done)))); try simp [hnt]) | (refine ⟨?_, ?_⟩; · omega) | omega | apply_assumption -exfalso -symm | (exfalso; omega)))
  · have hkk : k = s.size := by omega
    subst hkk
    rw [← size_toList, List.drop_length] at hl
    simp only [List.all_nil] at hl
    have hR2 : R = (decide (1 ≤ s.size) && decide (s.size ≤ 16)) := by rw [hR]; unfold nameOK; rw [hl]; simp
    subst hR2
    by_cases h1 : 1 ≤ s.size
    · have g1 : (1 : Int) ≤ s.size := by omega
      by_cases h2 : s.size ≤ 16
      · have g2 : (s.size : Int) ≤ 16 := by omega
        (repeat (first | refine DW_seq fun K hK => ?_ | (refine DW_r anWB126 Tryz.mixed (by kernel_rfl) ?_; simp [anWB126, hnt, g1, g2, h1, h2]; try simp (disch := omega) only [wrap64_in]) | refine DW_block ?_ | (refine DW_if ?_ ?_ ?_; (· (simp [hnt, g1, g2, h1, h2]; done)); (try (rotate_left; (· (intro hc; (try simp [hnt, g1, g2, h1, h2] at hc); done))))) | (refine DW_ret ?_; simp [Tryz.results26, hnt, g1, g2, h1, h2]) | ((first | refine DW_exit ?_ | refine DW_skip ?_); simp [hnt, g1, g2, h1, h2]) | (intro hc; (try simp [hnt, g1, g2, h1, h2] at hc); (try (exfalso; omega))) | (refine ⟨?_, ?_⟩; · omega) | omega | apply_assumption -exfalso -symm | (exfalso; omega)))
      · have g2 : ¬ (s.size : Int) ≤ 16 := by omega
        (repeat (first | refine DW_seq fun K hK => ?_ | (refine DW_r anWB126 Tryz.mixed (by kernel_rfl) ?_; simp [anWB126, hnt, g1, g2, h1, h2]; try simp (disch := omega) only [wrap64_in]) | refine DW_block ?_ | (refine DW_if ?_ ?_ ?_; (· (simp [hnt, g1, g2, h1, h2]; done)); (try (rotate_left; (· (intro hc; (try simp [hnt, g1, g2, h1, h2] at hc); done))))) | (refine DW_ret ?_; simp [Tryz.results26, hnt, g1, g2, h1, h2]) | ((first | refine DW_exit ?_ | refine DW_skip ?_); simp [hnt, g1, g2, h1, h2]) | (intro hc; (try simp [hnt, g1, g2, h1, h2] at hc); (try (exfalso; omega))) | (refine ⟨?_, ?_⟩; · omega) | omega | apply_assumption -exfalso -symm | (exfalso; omega)))
    · have g1 : ¬ (1 : Int) ≤ s.size := by omega
      (repeat (first | refine DW_seq fun K hK => ?_ | (refine DW_r anWB126 Tryz.mixed (by kernel_rfl) ?_; simp [anWB126, hnt, g1, h1]; try simp (disch := omega) only [wrap64_in]) | refine DW_block ?_ | (refine DW_if ?_ ?_ ?_; (· (simp [hnt, g1, h1]; done)); (try (rotate_left; (· (intro hc; (try simp [hnt, g1, h1] at hc); done))))) | (refine DW_ret ?_; simp [Tryz.results26, hnt, g1, h1]) | ((first | refine DW_exit ?_ | refine DW_skip ?_); simp [hnt, g1, h1]) | (intro hc; (try simp [hnt, g1, h1] at hc); (try (exfalso; omega))) | (refine ⟨?_, ?_⟩; · omega) | omega | apply_assumption -exfalso -symm | (exfalso; omega)))

def anWB142 : Ann := ⟨[], []⟩
theorem label_pure (s : ByteArray) : DPure Tryz.prog 42 [.str s] (.bool (labelOK s)) := by
  refine DPure_introF [] (fn := Tryz.f42) Tryz.func42 rfl Tryz.call42 (by simp [Tryz.ntmps42]) (by simp [mx]) ?_
  intro hwf B hnt
  simp only [Tryz.ntmps42] at hnt
  simp only [argS]
  have e1 := name_pure s
  unfold labelOK
  cases hN : nameOK s
  · rw [hN] at e1
    (repeat (first | refine DW_seq fun K hK => ?_ | (refine DW_r anWB142 Tryz.mixed (by kernel_rfl) ?_; simp [anWB142, hnt]; try simp (disch := omega) only [wrap64_in]) | refine DW_block ?_ | (refine DW_if ?_ ?_ ?_; (· (simp [hnt]; done)); (try (rotate_left; (· (intro hc; (try simp [hnt] at hc); done))))) | (refine DW_ret ?_; simp [Tryz.results42, hnt]) | ((first | refine DW_exit ?_ | refine DW_skip ?_); simp [hnt]) | (intro hc; (try simp [hnt] at hc); (try (exfalso; omega))) | ((first | refine callP_mk (e1) ?_ | (refine callP_wk (e1) ?_ ?_; (· (simp; done)))); try simp [hnt]) | (refine ⟨?_, ?_⟩; · omega) | omega | apply_assumption -exfalso -symm | (exfalso; omega)))
  · rw [hN] at e1
    have h1 : 1 ≤ s.size := by unfold nameOK at hN; simp at hN; omega
    obtain ⟨b, hb, hb', _⟩ := at_lt' (show 0 < s.data.toList.length by rw [size_toList]; omega)
    have hlow : lowS s = (decide (97 ≤ b.toNat) && decide (b.toNat ≤ 122)) := by
      unfold lowS
      cases hd : s.data.toList with
      | nil => rw [hd] at hb; simp at hb
      | cons x l => rw [hd] at hb; simp at hb; subst hb; rfl
    have g0 : 0 < s.size := by omega
    rw [hlow]
    by_cases h2 : 97 ≤ b.toNat
    · have g1 : (97 : Int) ≤ b.toNat := by omega
      (repeat (first | refine DW_seq fun K hK => ?_ | (refine DW_r anWB142 Tryz.mixed (by kernel_rfl) ?_; simp [anWB142, hnt, g0, hb, hb', h2, g1]; try simp (disch := omega) only [wrap64_in]) | refine DW_block ?_ | (refine DW_if ?_ ?_ ?_; (· (simp [hnt, g0, hb, hb', h2, g1]; done)); (try (rotate_left; (· (intro hc; (try simp [hnt, g0, hb, hb', h2, g1] at hc); done))))) | (refine DW_ret ?_; simp [Tryz.results42, hnt, g0, hb, hb', h2, g1]) | ((first | refine DW_exit ?_ | refine DW_skip ?_); simp [hnt, g0, hb, hb', h2, g1]) | (intro hc; (try simp [hnt, g0, hb, hb', h2, g1] at hc); (try (exfalso; omega))) | ((first | refine callP_mk (e1) ?_ | (refine callP_wk (e1) ?_ ?_; (· (simp; done)))); try simp [hnt, g0, hb, hb', h2, g1]) | (refine ⟨?_, ?_⟩; · omega) | omega | apply_assumption -exfalso -symm | (exfalso; omega)))
    · have g1 : ¬ (97 : Int) ≤ b.toNat := by omega
      (repeat (first | refine DW_seq fun K hK => ?_ | (refine DW_r anWB142 Tryz.mixed (by kernel_rfl) ?_; simp [anWB142, hnt, g0, hb, hb', h2, g1]; try simp (disch := omega) only [wrap64_in]) | refine DW_block ?_ | (refine DW_if ?_ ?_ ?_; (· (simp [hnt, g0, hb, hb', h2, g1]; done)); (try (rotate_left; (· (intro hc; (try simp [hnt, g0, hb, hb', h2, g1] at hc); done))))) | (refine DW_ret ?_; simp [Tryz.results42, hnt, g0, hb, hb', h2, g1]) | ((first | refine DW_exit ?_ | refine DW_skip ?_); simp [hnt, g0, hb, hb', h2, g1]) | (intro hc; (try simp [hnt, g0, hb, hb', h2, g1] at hc); (try (exfalso; omega))) | ((first | refine callP_mk (e1) ?_ | (refine callP_wk (e1) ?_ ?_; (· (simp; done)))); try simp [hnt, g0, hb, hb', h2, g1]) | (refine ⟨?_, ?_⟩; · omega) | omega | apply_assumption -exfalso -symm | (exfalso; omega)))
def anWB127 : Ann := ⟨[], []⟩
theorem rlabel_pure (s : ByteArray) : DPure Tryz.prog 27 [.str s] (.bool (labelOK s)) := by
  refine DPure_introF [] (fn := Tryz.f27) Tryz.func27 rfl Tryz.call27 (by simp [Tryz.ntmps27]) (by simp [mx]) ?_
  intro hwf B hnt
  simp only [Tryz.ntmps27] at hnt
  simp only [argS]
  have e1 := rname_pure s
  unfold labelOK
  cases hN : nameOK s
  · rw [hN] at e1
    (repeat (first | refine DW_seq fun K hK => ?_ | (refine DW_r anWB127 Tryz.mixed (by kernel_rfl) ?_; simp [anWB127, hnt]; try simp (disch := omega) only [wrap64_in]) | refine DW_block ?_ | (refine DW_if ?_ ?_ ?_; (· (simp [hnt]; done)); (try (rotate_left; (· (intro hc; (try simp [hnt] at hc); done))))) | (refine DW_ret ?_; simp [Tryz.results27, hnt]) | ((first | refine DW_exit ?_ | refine DW_skip ?_); simp [hnt]) | (intro hc; (try simp [hnt] at hc); (try (exfalso; omega))) | ((first | refine callP_mk (e1) ?_ | (refine callP_wk (e1) ?_ ?_; (· (simp; done)))); try simp [hnt]) | (refine ⟨?_, ?_⟩; · omega) | omega | apply_assumption -exfalso -symm | (exfalso; omega)))
  · rw [hN] at e1
    have h1 : 1 ≤ s.size := by unfold nameOK at hN; simp at hN; omega
    obtain ⟨b, hb, hb', _⟩ := at_lt' (show 0 < s.data.toList.length by rw [size_toList]; omega)
    have hlow : lowS s = (decide (97 ≤ b.toNat) && decide (b.toNat ≤ 122)) := by
      unfold lowS
      cases hd : s.data.toList with
      | nil => rw [hd] at hb; simp at hb
      | cons x l => rw [hd] at hb; simp at hb; subst hb; rfl
    have g0 : 0 < s.size := by omega
    rw [hlow]
    by_cases h2 : 97 ≤ b.toNat
    · have g1 : (97 : Int) ≤ b.toNat := by omega
      (repeat (first | refine DW_seq fun K hK => ?_ | (refine DW_r anWB127 Tryz.mixed (by kernel_rfl) ?_; simp [anWB127, hnt, g0, hb, hb', h2, g1]; try simp (disch := omega) only [wrap64_in]) | refine DW_block ?_ | (refine DW_if ?_ ?_ ?_; (· (simp [hnt, g0, hb, hb', h2, g1]; done)); (try (rotate_left; (· (intro hc; (try simp [hnt, g0, hb, hb', h2, g1] at hc); done))))) | (refine DW_ret ?_; simp [Tryz.results27, hnt, g0, hb, hb', h2, g1]) | ((first | refine DW_exit ?_ | refine DW_skip ?_); simp [hnt, g0, hb, hb', h2, g1]) | (intro hc; (try simp [hnt, g0, hb, hb', h2, g1] at hc); (try (exfalso; omega))) | ((first | refine callP_mk (e1) ?_ | (refine callP_wk (e1) ?_ ?_; (· (simp; done)))); try simp [hnt, g0, hb, hb', h2, g1]) | (refine ⟨?_, ?_⟩; · omega) | omega | apply_assumption -exfalso -symm | (exfalso; omega)))
    · have g1 : ¬ (97 : Int) ≤ b.toNat := by omega
      (repeat (first | refine DW_seq fun K hK => ?_ | (refine DW_r anWB127 Tryz.mixed (by kernel_rfl) ?_; simp [anWB127, hnt, g0, hb, hb', h2, g1]; try simp (disch := omega) only [wrap64_in]) | refine DW_block ?_ | (refine DW_if ?_ ?_ ?_; (· (simp [hnt, g0, hb, hb', h2, g1]; done)); (try (rotate_left; (· (intro hc; (try simp [hnt, g0, hb, hb', h2, g1] at hc); done))))) | (refine DW_ret ?_; simp [Tryz.results27, hnt, g0, hb, hb', h2, g1]) | ((first | refine DW_exit ?_ | refine DW_skip ?_); simp [hnt, g0, hb, hb', h2, g1]) | (intro hc; (try simp [hnt, g0, hb, hb', h2, g1] at hc); (try (exfalso; omega))) | ((first | refine callP_mk (e1) ?_ | (refine callP_wk (e1) ?_ ?_; (· (simp; done)))); try simp [hnt, g0, hb, hb', h2, g1]) | (refine ⟨?_, ?_⟩; · omega) | omega | apply_assumption -exfalso -symm | (exfalso; omega)))
end Go.Proofs.YtffdjbdokgbibaaGreat
end

section
/- graphs: rising, named, ways by definition -/


set_option linter.unusedSimpArgs false
set_option linter.unusedVariables false
namespace Go.Proofs.YtffdjbdokgbibaaGreat
open Go Go.Dm
attribute [local irreducible] DW callP callS
set_option maxRecDepth 100000

/-- each ahead of the next one -/
def risB {α : Type} (lt : α → α → Bool) : List α → Bool
  | a :: b :: l => lt a b && risB lt (b :: l)
  | _ => true
theorem risB_drop {α : Type} {lt : α → α → Bool} {l : List α} {k : Nat} {x y : α} (hx : l[k]? = some x) (hy : l[k + 1]? = some y) : risB lt (l.drop k) = (lt x y && risB lt (l.drop (k + 1))) := by
  obtain ⟨h1, rfl⟩ := List.getElem?_eq_some_iff.1 hx
  obtain ⟨h2, rfl⟩ := List.getElem?_eq_some_iff.1 hy
  rw [List.drop_eq_getElem_cons h1, List.drop_eq_getElem_cons h2]
  rfl
theorem risB_end {α : Type} {lt : α → α → Bool} {l : List α} {k : Nat} (h : l.length ≤ k + 1) : risB lt (l.drop k) = true := by
  have : (l.drop k).length ≤ 1 := by rw [List.length_drop]; omega
  match hd : l.drop k, this with
  | [], _ => rfl
  | [a], _ => rfl
  | a :: b :: r, h => simp at h

def anWB567 : Ann := ⟨[], []⟩
theorem rising_str_pure (l : List ByteArray) : DPure Tryz.prog 67 [dStrs l, .fn (.func 45) [] []] (.bool (risB sLess l)) := by
  refine DPure_introF [] (fn := Tryz.f67) Tryz.func67 rfl Tryz.call67 (by simp [Tryz.ntmps67]) (by simp [mx]) ?_
  intro hwf B hnt
  simp only [Tryz.ntmps67] at hnt
  have hlen := len_strs hwf.1
  clear hwf
  simp only [argS]
  obtain ⟨R, hR⟩ : ∃ R, R = risB sLess l := ⟨_, rfl⟩
  rw [← hR]
  (repeat (first | refine DW_seq fun K hK => ?_ | (refine DW_r anWB567 Tryz.mixed (by kernel_rfl) ?_; simp [anWB567, hnt]; try simp (disch := omega) only [wrap64_in]) | refine DW_block ?_ | (refine DW_if ?_ ?_ ?_; (· (simp [hnt]; done)); (try (rotate_left; (· (intro hc; (try simp [hnt] at hc); done))))) | (refine DW_ret ?_; simp [Tryz.results67, hnt]) | ((first | refine DW_exit ?_ | refine DW_skip ?_); simp [hnt]) | (intro hc; (try simp [hnt] at hc); (try (exfalso; omega))) | (refine ⟨?_, ?_⟩; · omega) | omega | apply_assumption -exfalso -symm | (exfalso; omega)))
  refine DW_loop (X := {k : Nat // k ≤ l.length ∧ R = risB sLess (l.drop k)}) (fun k => ⟨[(0, dStrs l), (1, .fn (.func 45) [] []), (5, .int .i64 (k.1 + 1))], []⟩) (fun k => l.length - k.1) ⟨0, by simp [hR]⟩ (Sub.lit (by simp)) ?_
  rintro ⟨k, hk, hw⟩
  clear hR
  by_cases hlt : k + 1 < l.length
  · obtain ⟨x, hx, hx', _⟩ := at_lt' (show k < l.length by omega)
    obtain ⟨y, hy, hy', _⟩ := at_lt' hlt
    rw [risB_drop hx hy] at hw
    have h1 := compare_pure x y
    have hlt' : (k : Int) + 1 < l.length := by omega
    have q0 : (k : Int) + 1 - 1 = k := by omega
    have q1 : ((k : Int) + 1).toNat = k + 1 := by omega
    have q2 : k < l.length := by omega
    have q3 : (0 : Int) ≤ (k : Int) + 1 := by omega
    cases hl : sLess x y
    · rw [hl] at hw
      simp only [Bool.false_and] at hw
      subst hw
      have hc : (0 : Int) ≤ sCmp x y := by
        have := (sCmp_neg (a := x) (b := y)).1
        rw [hl] at this
        simp only [Bool.false_eq_true, imp_false] at this
        omega
      (repeat (first | refine DW_seq fun K hK => ?_ | (refine DW_r anWB567 Tryz.mixed (by kernel_rfl) ?_; simp [anWB567, hnt, dStr, hlt', hx, hx', hy, hy', q0, q1, q2, q3, hlt, hc]; try simp (disch := omega) only [wrap64_in]) | refine DW_block ?_ | (refine DW_if ?_ ?_ ?_; (· (simp [hnt, dStr, hlt', hx, hx', hy, hy', q0, q1, q2, q3, hlt, hc]; done)); (try (rotate_left; (· (intro hc; (try simp [hnt, dStr, hlt', hx, hx', hy, hy', q0, q1, q2, q3, hlt, hc] at hc); done))))) | (refine DW_ret ?_; simp [Tryz.results67, hnt, dStr, hlt', hx, hx', hy, hy', q0, q1, q2, q3, hlt, hc]) | ((first | refine DW_exit ?_ | refine DW_skip ?_); simp [hnt, dStr, hlt', hx, hx', hy, hy', q0, q1, q2, q3, hlt, hc]) | (intro hc; (try simp [hnt, dStr, hlt', hx, hx', hy, hy', q0, q1, q2, q3, hlt, hc] at hc); (try (exfalso; omega))) | ((first | refine callP_mk (h1) ?_ | (refine callP_wk (h1) ?_ ?_; (· (simp; done)))); try simp [hnt, dStr, hlt', hx, hx', hy, hy', q0, q1, q2, q3, hlt, hc]) | (refine ⟨?_, ?_⟩; · omega) | omega | apply_assumption -exfalso -symm | (exfalso; omega)))
      simp [hnt, Tryz.results67, anWB567, dStr, hlt', hx, hx', hy, hy', q0, q1, q2, q3, hlt, hc]
      (repeat (first | refine DW_seq fun K hK => ?_ | (refine DW_r anWB567 Tryz.mixed (by kernel_rfl) ?_; simp [anWB567, hnt, dStr, hlt', hx, hx', hy, hy', q0, q1, q2, q3, hlt, hc]; try simp (disch := omega) only [wrap64_in]) | refine DW_block ?_ | (refine DW_if ?_ ?_ ?_; (· (simp [hnt, dStr, hlt', hx, hx', hy, hy', q0, q1, q2, q3, hlt, hc]; done)); (try (rotate_left; (· (intro hc; (try simp [hnt, dStr, hlt', hx, hx', hy, hy', q0, q1, q2, q3, hlt, hc] at hc); done))))) | (refine DW_ret ?_; simp [Tryz.results67, hnt, dStr, hlt', hx, hx', hy, hy', q0, q1, q2, q3, hlt, hc]) | ((first | refine DW_exit ?_ | refine DW_skip ?_); simp [hnt, dStr, hlt', hx, hx', hy, hy', q0, q1, q2, q3, hlt, hc]) | (intro hc; (try simp [hnt, dStr, hlt', hx, hx', hy, hy', q0, q1, q2, q3, hlt, hc] at hc); (try (exfalso; omega))) | ((first | refine callP_mk (h1) ?_ | (refine callP_wk (h1) ?_ ?_; (· (simp; done)))); try simp [hnt, dStr, hlt', hx, hx', hy, hy', q0, q1, q2, q3, hlt, hc]) | (refine ⟨?_, ?_⟩; · omega) | omega | apply_assumption -exfalso -symm | (exfalso; omega)))
    · rw [hl] at hw
      simp only [Bool.true_and] at hw
      have hc : ¬ (0 : Int) ≤ sCmp x y := by have := sCmp_neg.2 hl; omega
      (repeat (first | refine DW_seq fun K hK => ?_ | (refine DW_r anWB567 Tryz.mixed (by kernel_rfl) ?_; simp [anWB567, hnt, dStr, hlt', hx, hx', hy, hy', q0, q1, q2, q3, hlt, hc]; try simp (disch := omega) only [wrap64_in]) | refine DW_block ?_ | (refine DW_if ?_ ?_ ?_; (· (simp [hnt, dStr, hlt', hx, hx', hy, hy', q0, q1, q2, q3, hlt, hc]; done)); (try (rotate_left; (· (intro hc; (try simp [hnt, dStr, hlt', hx, hx', hy, hy', q0, q1, q2, q3, hlt, hc] at hc); done))))) | (refine DW_ret ?_; simp [Tryz.results67, hnt, dStr, hlt', hx, hx', hy, hy', q0, q1, q2, q3, hlt, hc]) | ((first | refine DW_exit ?_ | refine DW_skip ?_); simp [hnt, dStr, hlt', hx, hx', hy, hy', q0, q1, q2, q3, hlt, hc]) | (intro hc; (try simp [hnt, dStr, hlt', hx, hx', hy, hy', q0, q1, q2, q3, hlt, hc] at hc); (try (exfalso; omega))) | ((first | refine callP_mk (h1) ?_ | (refine callP_wk (h1) ?_ ?_; (· (simp; done)))); try simp [hnt, dStr, hlt', hx, hx', hy, hy', q0, q1, q2, q3, hlt, hc]) | (refine ⟨?_, ?_⟩; · omega) | omega | apply_assumption -exfalso -symm | (exfalso; omega)))
      simp [hnt, Tryz.results67, anWB567, dStr, hlt', hx, hx', hy, hy', q0, q1, q2, q3, hlt, hc]
      (repeat (first | refine DW_seq fun K hK => ?_ | (refine DW_r anWB567 Tryz.mixed (by kernel_rfl) ?_; simp [anWB567, hnt, dStr, hlt', hx, hx', hy, hy', q0, q1, q2, q3, hlt, hc]; try simp (disch := omega) only [wrap64_in]) | refine DW_block ?_ | (refine DW_if ?_ ?_ ?_; (· (simp [hnt, dStr, hlt', hx, hx', hy, hy', q0, q1, q2, q3, hlt, hc]; done)); (try (rotate_left; (· (intro hc; (try simp [hnt, dStr, hlt', hx, hx', hy, hy', q0, q1, q2, q3, hlt, hc] at hc); done))))) | (refine DW_ret ?_; simp [Tryz.results67, hnt, dStr, hlt', hx, hx', hy, hy', q0, q1, q2, q3, hlt, hc]) | ((first | refine DW_exit ?_ | refine DW_skip ?_); simp [hnt, dStr, hlt', hx, hx', hy, hy', q0, q1, q2, q3, hlt, hc]) | (intro hc; (try simp [hnt, dStr, hlt', hx, hx', hy, hy', q0, q1, q2, q3, hlt, hc] at hc); (try (exfalso; omega))) | ((first | refine callP_mk (h1) ?_ | (refine callP_wk (h1) ?_ ?_; (· (simp; done)))); try simp [hnt, dStr, hlt', hx, hx', hy, hy', q0, q1, q2, q3, hlt, hc]) | (refine ⟨?_, ?_⟩; · omega) | omega | apply_assumption -exfalso -symm | (exfalso; omega)))
      exact Again.mk ⟨k + 1, by omega, hw⟩ (Sub.lit (by simp)) (by simp; omega)
      (repeat (first | refine DW_seq fun K hK => ?_ | (refine DW_r anWB567 Tryz.mixed (by kernel_rfl) ?_; simp [anWB567, hnt]; try simp (disch := omega) only [wrap64_in]) | refine DW_block ?_ | (refine DW_if ?_ ?_ ?_; (· (simp [hnt]; done)); (try (rotate_left; (· (intro hc; (try simp [hnt] at hc); done))))) | (refine DW_ret ?_; simp [Tryz.results67, hnt]) | ((first | refine DW_exit ?_ | refine DW_skip ?_); simp [hnt]) | (intro hc; (try simp [hnt] at hc); (try (exfalso; omega))) | ((first | refine callP_mk (h1) ?_ | (refine callP_wk (h1) ?_ ?_; (· (simp; done)))); try simp [hnt]) | (refine ⟨?_, ?_⟩; · omega) | omega | apply_assumption -exfalso -symm | (exfalso; omega)))
  · have hlt' : ¬ (k : Int) + 1 < l.length := by omega
    rw [risB_end (by omega)] at hw
    subst hw
    (repeat (first | refine DW_seq fun K hK => ?_ | (refine DW_r anWB567 Tryz.mixed (by kernel_rfl) ?_; simp [anWB567, hnt, hlt']; try simp (disch := omega) only [wrap64_in]) | refine DW_block ?_ | (refine DW_if ?_ ?_ ?_; (· (simp [hnt, hlt']; done)); (try (rotate_left; (· (intro hc; (try simp [hnt, hlt'] at hc); done))))) | (refine DW_ret ?_; simp [Tryz.results67, hnt, hlt']) | ((first | refine DW_exit ?_ | refine DW_skip ?_); simp [hnt, hlt']) | (intro hc; (try simp [hnt, hlt'] at hc); (try (exfalso; omega))) | (refine ⟨?_, ?_⟩; · omega) | omega | apply_assumption -exfalso -symm | (exfalso; omega)))
def anWB568 : Ann := ⟨[], []⟩
theorem rising_edge_pure (l : List Edge) : DPure Tryz.prog 68 [dEds l, .fn (.func 47) [] []] (.bool (risB eLess l)) := by
  refine DPure_introF [] (fn := Tryz.f68) Tryz.func68 rfl Tryz.call68 (by simp [Tryz.ntmps68]) (by simp [mx]) ?_
  intro hwf B hnt
  simp only [Tryz.ntmps68] at hnt
  have hlen := len_eds hwf.1
  clear hwf
  simp only [argS]
  obtain ⟨R, hR⟩ : ∃ R, R = risB eLess l := ⟨_, rfl⟩
  rw [← hR]
  (repeat (first | refine DW_seq fun K hK => ?_ | (refine DW_r anWB568 Tryz.mixed (by kernel_rfl) ?_; simp [anWB568, hnt]; try simp (disch := omega) only [wrap64_in]) | refine DW_block ?_ | (refine DW_if ?_ ?_ ?_; (· (simp [hnt]; done)); (try (rotate_left; (· (intro hc; (try simp [hnt] at hc); done))))) | (refine DW_ret ?_; simp [Tryz.results68, hnt]) | ((first | refine DW_exit ?_ | refine DW_skip ?_); simp [hnt]) | (intro hc; (try simp [hnt] at hc); (try (exfalso; omega))) | (refine ⟨?_, ?_⟩; · omega) | omega | apply_assumption -exfalso -symm | (exfalso; omega)))
  refine DW_loop (X := {k : Nat // k ≤ l.length ∧ R = risB eLess (l.drop k)}) (fun k => ⟨[(0, dEds l), (1, .fn (.func 47) [] []), (5, .int .i64 (k.1 + 1))], []⟩) (fun k => l.length - k.1) ⟨0, by simp [hR]⟩ (Sub.lit (by simp)) ?_
  rintro ⟨k, hk, hw⟩
  clear hR
  by_cases hlt : k + 1 < l.length
  · obtain ⟨x, hx, hx', _⟩ := at_lt' (show k < l.length by omega)
    obtain ⟨y, hy, hy', _⟩ := at_lt' hlt
    rw [risB_drop hx hy] at hw
    have h1 := order_edge_pure x y
    simp only [dEdge] at h1
    have hlt' : (k : Int) + 1 < l.length := by omega
    have q0 : (k : Int) + 1 - 1 = k := by omega
    have q1 : ((k : Int) + 1).toNat = k + 1 := by omega
    have q2 : k < l.length := by omega
    have q3 : (0 : Int) ≤ (k : Int) + 1 := by omega
    cases hl : eLess x y
    · rw [hl] at hw
      simp only [Bool.false_and] at hw
      subst hw
      have hc : (0 : Int) ≤ eCmp x y := by
        have := (eCmp_neg (a := x) (b := y)).1
        rw [hl] at this
        simp only [Bool.false_eq_true, imp_false] at this
        omega
      (repeat (first | refine DW_seq fun K hK => ?_ | (refine DW_r anWB568 Tryz.mixed (by kernel_rfl) ?_; simp [anWB568, hnt, dEdge, hlt', hx, hx', hy, hy', q0, q1, q2, q3, hlt, hc]; try simp (disch := omega) only [wrap64_in]) | refine DW_block ?_ | (refine DW_if ?_ ?_ ?_; (· (simp [hnt, dEdge, hlt', hx, hx', hy, hy', q0, q1, q2, q3, hlt, hc]; done)); (try (rotate_left; (· (intro hc; (try simp [hnt, dEdge, hlt', hx, hx', hy, hy', q0, q1, q2, q3, hlt, hc] at hc); done))))) | (refine DW_ret ?_; simp [Tryz.results68, hnt, dEdge, hlt', hx, hx', hy, hy', q0, q1, q2, q3, hlt, hc]) | ((first | refine DW_exit ?_ | refine DW_skip ?_); simp [hnt, dEdge, hlt', hx, hx', hy, hy', q0, q1, q2, q3, hlt, hc]) | (intro hc; (try simp [hnt, dEdge, hlt', hx, hx', hy, hy', q0, q1, q2, q3, hlt, hc] at hc); (try (exfalso; omega))) | ((first | refine callP_mk (h1) ?_ | (refine callP_wk (h1) ?_ ?_; (· (simp; done)))); try simp [hnt, dEdge, hlt', hx, hx', hy, hy', q0, q1, q2, q3, hlt, hc]) | (refine ⟨?_, ?_⟩; · omega) | omega | apply_assumption -exfalso -symm | (exfalso; omega)))
      simp [hnt, Tryz.results68, anWB568, dEdge, hlt', hx, hx', hy, hy', q0, q1, q2, q3, hlt, hc]
      (repeat (first | refine DW_seq fun K hK => ?_ | (refine DW_r anWB568 Tryz.mixed (by kernel_rfl) ?_; simp [anWB568, hnt, dEdge, hlt', hx, hx', hy, hy', q0, q1, q2, q3, hlt, hc]; try simp (disch := omega) only [wrap64_in]) | refine DW_block ?_ | (refine DW_if ?_ ?_ ?_; (· (simp [hnt, dEdge, hlt', hx, hx', hy, hy', q0, q1, q2, q3, hlt, hc]; done)); (try (rotate_left; (· (intro hc; (try simp [hnt, dEdge, hlt', hx, hx', hy, hy', q0, q1, q2, q3, hlt, hc] at hc); done))))) | (refine DW_ret ?_; simp [Tryz.results68, hnt, dEdge, hlt', hx, hx', hy, hy', q0, q1, q2, q3, hlt, hc]) | ((first | refine DW_exit ?_ | refine DW_skip ?_); simp [hnt, dEdge, hlt', hx, hx', hy, hy', q0, q1, q2, q3, hlt, hc]) | (intro hc; (try simp [hnt, dEdge, hlt', hx, hx', hy, hy', q0, q1, q2, q3, hlt, hc] at hc); (try (exfalso; omega))) | ((first | refine callP_mk (h1) ?_ | (refine callP_wk (h1) ?_ ?_; (· (simp; done)))); try simp [hnt, dEdge, hlt', hx, hx', hy, hy', q0, q1, q2, q3, hlt, hc]) | (refine ⟨?_, ?_⟩; · omega) | omega | apply_assumption -exfalso -symm | (exfalso; omega)))
    · rw [hl] at hw
      simp only [Bool.true_and] at hw
      have hc : ¬ (0 : Int) ≤ eCmp x y := by have := eCmp_neg.2 hl; omega
      (repeat (first | refine DW_seq fun K hK => ?_ | (refine DW_r anWB568 Tryz.mixed (by kernel_rfl) ?_; simp [anWB568, hnt, dEdge, hlt', hx, hx', hy, hy', q0, q1, q2, q3, hlt, hc]; try simp (disch := omega) only [wrap64_in]) | refine DW_block ?_ | (refine DW_if ?_ ?_ ?_; (· (simp [hnt, dEdge, hlt', hx, hx', hy, hy', q0, q1, q2, q3, hlt, hc]; done)); (try (rotate_left; (· (intro hc; (try simp [hnt, dEdge, hlt', hx, hx', hy, hy', q0, q1, q2, q3, hlt, hc] at hc); done))))) | (refine DW_ret ?_; simp [Tryz.results68, hnt, dEdge, hlt', hx, hx', hy, hy', q0, q1, q2, q3, hlt, hc]) | ((first | refine DW_exit ?_ | refine DW_skip ?_); simp [hnt, dEdge, hlt', hx, hx', hy, hy', q0, q1, q2, q3, hlt, hc]) | (intro hc; (try simp [hnt, dEdge, hlt', hx, hx', hy, hy', q0, q1, q2, q3, hlt, hc] at hc); (try (exfalso; omega))) | ((first | refine callP_mk (h1) ?_ | (refine callP_wk (h1) ?_ ?_; (· (simp; done)))); try simp [hnt, dEdge, hlt', hx, hx', hy, hy', q0, q1, q2, q3, hlt, hc]) | (refine ⟨?_, ?_⟩; · omega) | omega | apply_assumption -exfalso -symm | (exfalso; omega)))
      simp [hnt, Tryz.results68, anWB568, dEdge, hlt', hx, hx', hy, hy', q0, q1, q2, q3, hlt, hc]
      (repeat (first | refine DW_seq fun K hK => ?_ | (refine DW_r anWB568 Tryz.mixed (by kernel_rfl) ?_; simp [anWB568, hnt, dEdge, hlt', hx, hx', hy, hy', q0, q1, q2, q3, hlt, hc]; try simp (disch := omega) only [wrap64_in]) | refine DW_block ?_ | (refine DW_if ?_ ?_ ?_; (· (simp [hnt, dEdge, hlt', hx, hx', hy, hy', q0, q1, q2, q3, hlt, hc]; done)); (try (rotate_left; (· (intro hc; (try simp [hnt, dEdge, hlt', hx, hx', hy, hy', q0, q1, q2, q3, hlt, hc] at hc); done))))) | (refine DW_ret ?_; simp [Tryz.results68, hnt, dEdge, hlt', hx, hx', hy, hy', q0, q1, q2, q3, hlt, hc]) | ((first | refine DW_exit ?_ | refine DW_skip ?_); simp [hnt, dEdge, hlt', hx, hx', hy, hy', q0, q1, q2, q3, hlt, hc]) | (intro hc; (try simp [hnt, dEdge, hlt', hx, hx', hy, hy', q0, q1, q2, q3, hlt, hc] at hc); (try (exfalso; omega))) | ((first | refine callP_mk (h1) ?_ | (refine callP_wk (h1) ?_ ?_; (· (simp; done)))); try simp [hnt, dEdge, hlt', hx, hx', hy, hy', q0, q1, q2, q3, hlt, hc]) | (refine ⟨?_, ?_⟩; · omega) | omega | apply_assumption -exfalso -symm | (exfalso; omega)))
      exact Again.mk ⟨k + 1, by omega, hw⟩ (Sub.lit (by simp)) (by simp; omega)
      (repeat (first | refine DW_seq fun K hK => ?_ | (refine DW_r anWB568 Tryz.mixed (by kernel_rfl) ?_; simp [anWB568, hnt]; try simp (disch := omega) only [wrap64_in]) | refine DW_block ?_ | (refine DW_if ?_ ?_ ?_; (· (simp [hnt]; done)); (try (rotate_left; (· (intro hc; (try simp [hnt] at hc); done))))) | (refine DW_ret ?_; simp [Tryz.results68, hnt]) | ((first | refine DW_exit ?_ | refine DW_skip ?_); simp [hnt]) | (intro hc; (try simp [hnt] at hc); (try (exfalso; omega))) | ((first | refine callP_mk (h1) ?_ | (refine callP_wk (h1) ?_ ?_; (· (simp; done)))); try simp [hnt]) | (refine ⟨?_, ?_⟩; · omega) | omega | apply_assumption -exfalso -symm | (exfalso; omega)))
  · have hlt' : ¬ (k : Int) + 1 < l.length := by omega
    rw [risB_end (by omega)] at hw
    subst hw
    (repeat (first | refine DW_seq fun K hK => ?_ | (refine DW_r anWB568 Tryz.mixed (by kernel_rfl) ?_; simp [anWB568, hnt, hlt']; try simp (disch := omega) only [wrap64_in]) | refine DW_block ?_ | (refine DW_if ?_ ?_ ?_; (· (simp [hnt, hlt']; done)); (try (rotate_left; (· (intro hc; (try simp [hnt, hlt'] at hc); done))))) | (refine DW_ret ?_; simp [Tryz.results68, hnt, hlt']) | ((first | refine DW_exit ?_ | refine DW_skip ?_); simp [hnt, hlt']) | (intro hc; (try simp [hnt, hlt'] at hc); (try (exfalso; omega))) | (refine ⟨?_, ?_⟩; · omega) | omega | apply_assumption -exfalso -symm | (exfalso; omega)))
end Go.Proofs.YtffdjbdokgbibaaGreat
end

section
/- graphs: named, form -/

set_option linter.unusedSimpArgs false
set_option linter.unusedVariables false
namespace Go.Proofs.YtffdjbdokgbibaaGreat
open Go Go.Dm
attribute [local irreducible] DW callP callS
set_option maxRecDepth 100000

def edgeOK (e : Edge) : Bool := nameOK e.fr && (labelOK e.lb && nameOK e.to)
def namedB (g : Edges) : Bool := g.nodes.all nameOK && g.edges.all edgeOK
theorem all_drop {α : Type} {q : α → Bool} {l : List α} {k : Nat} {x : α} (hx : l[k]? = some x) : (l.drop k).all q = (q x && (l.drop (k + 1)).all q) := by
  obtain ⟨h1, rfl⟩ := List.getElem?_eq_some_iff.1 hx
  rw [List.drop_eq_getElem_cons h1, List.all_cons]

def anWB624 : Ann := ⟨[], [⟨9, [6], [], []⟩]⟩
set_option maxHeartbeats 1000000 in
theorem named102_pure (g : Edges) : DPure Tryz.prog 24 [.agg (dGr g)] (.bool (namedB g)) := by
  refine DPure_introF [] (fn := Tryz.f24) Tryz.func24 rfl Tryz.call24 (by simp [Tryz.ntmps24]) (by simp [mx]) ?_
  intro hwf B hnt
  simp only [Tryz.ntmps24] at hnt
  obtain ⟨ns, es⟩ := g
  have hw1 : ns.length < 9223372036854775807 := len_strs (by have := hwf.1; simp only [wfD, dGr, wfL] at this; exact this.1)
  have hw2 : es.length < 9223372036854775807 := len_eds (by have := hwf.1; simp only [wfD, dGr, wfL] at this; exact this.2.1)
  clear hwf
  simp only [argS]
  obtain ⟨R, hR⟩ : ∃ R, R = namedB ⟨ns, es⟩ := ⟨_, rfl⟩
  rw [← hR]
  unfold namedB at hR
  simp only at hR
  (repeat (first | refine DW_seq fun K hK => ?_ | (refine DW_r anWB624 Tryz.mixed (by kernel_rfl) ?_; simp [anWB624, hnt, dGr]; try simp (disch := omega) only [wrap64_in]) | refine DW_block ?_ | (refine DW_if ?_ ?_ ?_; (· (simp [hnt, dGr]; done)); (try (rotate_left; (· (intro hc; (try simp [hnt, dGr] at hc); done))))) | (refine DW_ret ?_; simp [Tryz.results24, hnt, dGr]) | ((first | refine DW_exit ?_ | refine DW_skip ?_); simp [hnt, dGr]) | (intro hc; (try simp [hnt, dGr] at hc); (try (exfalso; omega))) | (refine ⟨?_, ?_⟩; · omega) | omega | apply_assumption -exfalso -symm | (exfalso; omega)))
  refine DW_loop (X := {k : Nat // k ≤ ns.length ∧ R = ((ns.drop k).all nameOK && es.all edgeOK)}) (fun k => ⟨[(1, .ref [dStrs ns, dEds es]), (8, dStrs ns), (9, .int .i64 ns.length), (10, .int .i64 k.1)], []⟩) (fun k => ns.length - k.1) ⟨0, by simp [hR]⟩ (Sub.lit (by simp)) ?_
  rintro ⟨k, hk, hw⟩
  clear hR
  by_cases hlt : k < ns.length
  · obtain ⟨x, hx, hx', _⟩ := at_lt' hlt
    rw [all_drop hx] at hw
    have h1 := name_pure x
    cases hq : nameOK x
    · rw [hq] at hw h1
      simp only [Bool.false_and] at hw
      subst hw
      (repeat (first | refine DW_seq fun K hK => ?_ | (refine DW_r anWB624 Tryz.mixed (by kernel_rfl) ?_; simp [anWB624, hnt, dStr, hlt, hx, hx']; try simp (disch := omega) only [wrap64_in]) | refine DW_block ?_ | (refine DW_if ?_ ?_ ?_; (· (simp [hnt, dStr, hlt, hx, hx']; done)); (try (rotate_left; (· (intro hc; (try simp [hnt, dStr, hlt, hx, hx'] at hc); done))))) | (refine DW_ret ?_; simp [Tryz.results24, hnt, dStr, hlt, hx, hx']) | ((first | refine DW_exit ?_ | refine DW_skip ?_); simp [hnt, dStr, hlt, hx, hx']) | (intro hc; (try simp [hnt, dStr, hlt, hx, hx'] at hc); (try (exfalso; omega))) | ((first | refine callP_mk (h1) ?_ | (refine callP_wk (h1) ?_ ?_; (· (simp; done)))); try simp [hnt, dStr, hlt, hx, hx']) | (refine ⟨?_, ?_⟩; · omega) | omega | apply_assumption -exfalso -symm | (exfalso; omega)))
    · rw [hq] at hw h1
      simp only [Bool.true_and] at hw
      (repeat (first | refine DW_seq fun K hK => ?_ | (refine DW_r anWB624 Tryz.mixed (by kernel_rfl) ?_; simp [anWB624, hnt, dStr, hlt, hx, hx']; try simp (disch := omega) only [wrap64_in]) | refine DW_block ?_ | (refine DW_if ?_ ?_ ?_; (· (simp [hnt, dStr, hlt, hx, hx']; done)); (try (rotate_left; (· (intro hc; (try simp [hnt, dStr, hlt, hx, hx'] at hc); done))))) | (refine DW_ret ?_; simp [Tryz.results24, hnt, dStr, hlt, hx, hx']) | ((first | refine DW_exit ?_ | refine DW_skip ?_); simp [hnt, dStr, hlt, hx, hx']) | (intro hc; (try simp [hnt, dStr, hlt, hx, hx'] at hc); (try (exfalso; omega))) | ((first | refine callP_mk (h1) ?_ | (refine callP_wk (h1) ?_ ?_; (· (simp; done)))); try simp [hnt, dStr, hlt, hx, hx']) | (refine ⟨?_, ?_⟩; · omega) | omega | apply_assumption -exfalso -symm | (exfalso; omega)))
      exact Again.mk ⟨k + 1, by omega, hw⟩ (Sub.lit (by simp)) (by simp; omega)
      (repeat (first | refine DW_seq fun K hK => ?_ | (refine DW_r anWB624 Tryz.mixed (by kernel_rfl) ?_; simp [anWB624, hnt]; try simp (disch := omega) only [wrap64_in]) | refine DW_block ?_ | (refine DW_if ?_ ?_ ?_; (· (simp [hnt]; done)); (try (rotate_left; (· (intro hc; (try simp [hnt] at hc); done))))) | (refine DW_ret ?_; simp [Tryz.results24, hnt]) | ((first | refine DW_exit ?_ | refine DW_skip ?_); simp [hnt]) | (intro hc; (try simp [hnt] at hc); (try (exfalso; omega))) | ((first | refine callP_mk (h1) ?_ | (refine callP_wk (h1) ?_ ?_; (· (simp; done)))); try simp [hnt]) | (refine ⟨?_, ?_⟩; · omega) | omega | apply_assumption -exfalso -symm | (exfalso; omega)))
  · have hkk : k = ns.length := by omega
    subst hkk
    rw [List.drop_length] at hw
    simp only [List.all_nil, Bool.true_and] at hw
    (repeat (first | refine DW_seq fun K hK => ?_ | (refine DW_r anWB624 Tryz.mixed (by kernel_rfl) ?_; simp [anWB624, hnt]; try simp (disch := omega) only [wrap64_in]) | refine DW_block ?_ | (refine DW_if ?_ ?_ ?_; (· (simp [hnt]; done)); (try (rotate_left; (· (intro hc; (try simp [hnt] at hc); done))))) | (refine DW_ret ?_; simp [Tryz.results24, hnt]) | ((first | refine DW_exit ?_ | refine DW_skip ?_); simp [hnt]) | (intro hc; (try simp [hnt] at hc); (try (exfalso; omega))) | (refine ⟨?_, ?_⟩; · omega) | omega | apply_assumption -exfalso -symm | (exfalso; omega)))
    refine DW_loop (X := {k : Nat // k ≤ es.length ∧ R = (es.drop k).all edgeOK}) (fun k => ⟨[(19, dEds es), (20, .int .i64 es.length), (21, .int .i64 k.1)], []⟩) (fun k => es.length - k.1) ⟨0, by simp [hw]⟩ (Sub.lit (by simp)) ?_
    rintro ⟨k, hk, hw⟩
    by_cases hlt : k < es.length
    · obtain ⟨x, hx, hx', _⟩ := at_lt' hlt
      rw [all_drop hx] at hw
      have h1 := name_pure x.fr
      have h2 := label_pure x.lb
      have h3 := name_pure x.to
      cases hq1 : nameOK x.fr
      · rw [hq1] at h1
        have : edgeOK x = false := by unfold edgeOK; rw [hq1]; rfl
        rw [this] at hw
        simp only [Bool.false_and] at hw
        subst hw
        (repeat (first | refine DW_seq fun K hK => ?_ | (refine DW_r anWB624 Tryz.mixed (by kernel_rfl) ?_; simp [anWB624, hnt, dEdge, hlt, hx, hx']; try simp (disch := omega) only [wrap64_in]) | refine DW_block ?_ | (refine DW_if ?_ ?_ ?_; (· (simp [hnt, dEdge, hlt, hx, hx']; done)); (try (rotate_left; (· (intro hc; (try simp [hnt, dEdge, hlt, hx, hx'] at hc); done))))) | (refine DW_ret ?_; simp [Tryz.results24, hnt, dEdge, hlt, hx, hx']) | ((first | refine DW_exit ?_ | refine DW_skip ?_); simp [hnt, dEdge, hlt, hx, hx']) | (intro hc; (try simp [hnt, dEdge, hlt, hx, hx'] at hc); (try (exfalso; omega))) | ((first | refine callP_mk (h1) ?_ | refine callP_mk (h2) ?_ | refine callP_mk (h3) ?_ | (refine callP_wk (h1) ?_ ?_; (· (simp; done))) | (refine callP_wk (h2) ?_ ?_; (· (simp; done))) | (refine callP_wk (h3) ?_ ?_; (· (simp; done)))); try simp [hnt, dEdge, hlt, hx, hx']) | (refine ⟨?_, ?_⟩; · omega) | omega | apply_assumption -exfalso -symm | (exfalso; omega)))
      · rw [hq1] at h1
        cases hq2 : labelOK x.lb
        · rw [hq2] at h2
          have : edgeOK x = false := by unfold edgeOK; rw [hq2]; simp
          rw [this] at hw
          simp only [Bool.false_and] at hw
          subst hw
          (repeat (first | refine DW_seq fun K hK => ?_ | (refine DW_r anWB624 Tryz.mixed (by kernel_rfl) ?_; simp [anWB624, hnt, dEdge, hlt, hx, hx']; try simp (disch := omega) only [wrap64_in]) | refine DW_block ?_ | (refine DW_if ?_ ?_ ?_; (· (simp [hnt, dEdge, hlt, hx, hx']; done)); (try (rotate_left; (· (intro hc; (try simp [hnt, dEdge, hlt, hx, hx'] at hc); done))))) | (refine DW_ret ?_; simp [Tryz.results24, hnt, dEdge, hlt, hx, hx']) | ((first | refine DW_exit ?_ | refine DW_skip ?_); simp [hnt, dEdge, hlt, hx, hx']) | (intro hc; (try simp [hnt, dEdge, hlt, hx, hx'] at hc); (try (exfalso; omega))) | ((first | refine callP_mk (h1) ?_ | refine callP_mk (h2) ?_ | refine callP_mk (h3) ?_ | (refine callP_wk (h1) ?_ ?_; (· (simp; done))) | (refine callP_wk (h2) ?_ ?_; (· (simp; done))) | (refine callP_wk (h3) ?_ ?_; (· (simp; done)))); try simp [hnt, dEdge, hlt, hx, hx']) | (refine ⟨?_, ?_⟩; · omega) | omega | apply_assumption -exfalso -symm | (exfalso; omega)))
        · rw [hq2] at h2
          cases hq3 : nameOK x.to
          · rw [hq3] at h3
            have : edgeOK x = false := by unfold edgeOK; rw [hq3]; simp
            rw [this] at hw
            simp only [Bool.false_and] at hw
            subst hw
            (repeat (first | refine DW_seq fun K hK => ?_ | (refine DW_r anWB624 Tryz.mixed (by kernel_rfl) ?_; simp [anWB624, hnt, dEdge, hlt, hx, hx']; try simp (disch := omega) only [wrap64_in]) | refine DW_block ?_ | (refine DW_if ?_ ?_ ?_; (· (simp [hnt, dEdge, hlt, hx, hx']; done)); (try (rotate_left; (· (intro hc; (try simp [hnt, dEdge, hlt, hx, hx'] at hc); done))))) | (refine DW_ret ?_; simp [Tryz.results24, hnt, dEdge, hlt, hx, hx']) | ((first | refine DW_exit ?_ | refine DW_skip ?_); simp [hnt, dEdge, hlt, hx, hx']) | (intro hc; (try simp [hnt, dEdge, hlt, hx, hx'] at hc); (try (exfalso; omega))) | ((first | refine callP_mk (h1) ?_ | refine callP_mk (h2) ?_ | refine callP_mk (h3) ?_ | (refine callP_wk (h1) ?_ ?_; (· (simp; done))) | (refine callP_wk (h2) ?_ ?_; (· (simp; done))) | (refine callP_wk (h3) ?_ ?_; (· (simp; done)))); try simp [hnt, dEdge, hlt, hx, hx']) | (refine ⟨?_, ?_⟩; · omega) | omega | apply_assumption -exfalso -symm | (exfalso; omega)))
          · rw [hq3] at h3
            have : edgeOK x = true := by unfold edgeOK; rw [hq1, hq2, hq3]; rfl
            rw [this] at hw
            simp only [Bool.true_and] at hw
            (repeat (first | refine DW_seq fun K hK => ?_ | (refine DW_r anWB624 Tryz.mixed (by kernel_rfl) ?_; simp [anWB624, hnt, dEdge, hlt, hx, hx']; try simp (disch := omega) only [wrap64_in]) | refine DW_block ?_ | (refine DW_if ?_ ?_ ?_; (· (simp [hnt, dEdge, hlt, hx, hx']; done)); (try (rotate_left; (· (intro hc; (try simp [hnt, dEdge, hlt, hx, hx'] at hc); done))))) | (refine DW_ret ?_; simp [Tryz.results24, hnt, dEdge, hlt, hx, hx']) | ((first | refine DW_exit ?_ | refine DW_skip ?_); simp [hnt, dEdge, hlt, hx, hx']) | (intro hc; (try simp [hnt, dEdge, hlt, hx, hx'] at hc); (try (exfalso; omega))) | ((first | refine callP_mk (h1) ?_ | refine callP_mk (h2) ?_ | refine callP_mk (h3) ?_ | (refine callP_wk (h1) ?_ ?_; (· (simp; done))) | (refine callP_wk (h2) ?_ ?_; (· (simp; done))) | (refine callP_wk (h3) ?_ ?_; (· (simp; done)))); try simp [hnt, dEdge, hlt, hx, hx']) | (refine ⟨?_, ?_⟩; · omega) | omega | apply_assumption -exfalso -symm | (exfalso; omega)))
            exact Again.mk ⟨k + 1, by omega, hw⟩ (Sub.lit (by simp)) (by simp; omega)
            (repeat (first | refine DW_seq fun K hK => ?_ | (refine DW_r anWB624 Tryz.mixed (by kernel_rfl) ?_; simp [anWB624, hnt]; try simp (disch := omega) only [wrap64_in]) | refine DW_block ?_ | (refine DW_if ?_ ?_ ?_; (· (simp [hnt]; done)); (try (rotate_left; (· (intro hc; (try simp [hnt] at hc); done))))) | (refine DW_ret ?_; simp [Tryz.results24, hnt]) | ((first | refine DW_exit ?_ | refine DW_skip ?_); simp [hnt]) | (intro hc; (try simp [hnt] at hc); (try (exfalso; omega))) | ((first | refine callP_mk (h1) ?_ | refine callP_mk (h2) ?_ | refine callP_mk (h3) ?_ | (refine callP_wk (h1) ?_ ?_; (· (simp; done))) | (refine callP_wk (h2) ?_ ?_; (· (simp; done))) | (refine callP_wk (h3) ?_ ?_; (· (simp; done)))); try simp [hnt]) | (refine ⟨?_, ?_⟩; · omega) | omega | apply_assumption -exfalso -symm | (exfalso; omega)))
    · have hkk : k = es.length := by omega
      subst hkk
      rw [List.drop_length] at hw
      simp only [List.all_nil] at hw
      subst hw
      (repeat (first | refine DW_seq fun K hK => ?_ | (refine DW_r anWB624 Tryz.mixed (by kernel_rfl) ?_; simp [anWB624, hnt]; try simp (disch := omega) only [wrap64_in]) | refine DW_block ?_ | (refine DW_if ?_ ?_ ?_; (· (simp [hnt]; done)); (try (rotate_left; (· (intro hc; (try simp [hnt] at hc); done))))) | (refine DW_ret ?_; simp [Tryz.results24, hnt]) | ((first | refine DW_exit ?_ | refine DW_skip ?_); simp [hnt]) | (intro hc; (try simp [hnt] at hc); (try (exfalso; omega))) | (refine ⟨?_, ?_⟩; · omega) | omega | apply_assumption -exfalso -symm | (exfalso; omega)))

def anWB617 : Ann := ⟨[], [⟨10, [8], [], []⟩]⟩
set_option maxHeartbeats 1000000 in
theorem named108_pure (ns : List ByteArray) (es : List Edge) : DPure Tryz.prog 17 [dStrs ns, dEds es] (.bool (namedB ⟨ns, es⟩)) := by
  refine DPure_introF [] (fn := Tryz.f17) Tryz.func17 rfl Tryz.call17 (by simp [Tryz.ntmps17]) (by simp [mx]) ?_
  intro hwf B hnt
  simp only [Tryz.ntmps17] at hnt
  have hw1 : ns.length < 9223372036854775807 := len_strs hwf.1
  have hw2 : es.length < 9223372036854775807 := len_eds hwf.2.1
  clear hwf
  simp only [argS]
  obtain ⟨R, hR⟩ : ∃ R, R = namedB ⟨ns, es⟩ := ⟨_, rfl⟩
  rw [← hR]
  unfold namedB at hR
  simp only at hR
  (repeat (first | refine DW_seq fun K hK => ?_ | (refine DW_r anWB617 Tryz.mixed (by kernel_rfl) ?_; simp [anWB617, hnt]; try simp (disch := omega) only [wrap64_in]) | refine DW_block ?_ | (refine DW_if ?_ ?_ ?_; (· (simp [hnt]; done)); (try (rotate_left; (· (intro hc; (try simp [hnt] at hc); done))))) | (refine DW_ret ?_; simp [Tryz.results17, hnt]) | ((first | refine DW_exit ?_ | refine DW_skip ?_); simp [hnt]) | (intro hc; (try simp [hnt] at hc); (try (exfalso; omega))) | (refine ⟨?_, ?_⟩; · omega) | omega | apply_assumption -exfalso -symm | (exfalso; omega)))
  refine DW_loop (X := {k : Nat // k ≤ ns.length ∧ R = ((ns.drop k).all nameOK && es.all edgeOK)}) (fun k => ⟨[(0, dStrs ns), (1, dEds es), (5, .int .i64 k.1)], []⟩) (fun k => ns.length - k.1) ⟨0, by simp [hR]⟩ (Sub.lit (by simp)) ?_
  rintro ⟨k, hk, hw⟩
  clear hR
  by_cases hlt : k < ns.length
  · obtain ⟨x, hx, hx', _⟩ := at_lt' hlt
    rw [all_drop hx] at hw
    have h1 := rname_pure x
    cases hq : nameOK x
    · rw [hq] at hw h1
      simp only [Bool.false_and] at hw
      subst hw
      (repeat (first | refine DW_seq fun K hK => ?_ | (refine DW_r anWB617 Tryz.mixed (by kernel_rfl) ?_; simp [anWB617, hnt, dStr, hlt, hx, hx']; try simp (disch := omega) only [wrap64_in]) | refine DW_block ?_ | (refine DW_if ?_ ?_ ?_; (· (simp [hnt, dStr, hlt, hx, hx']; done)); (try (rotate_left; (· (intro hc; (try simp [hnt, dStr, hlt, hx, hx'] at hc); done))))) | (refine DW_ret ?_; simp [Tryz.results17, hnt, dStr, hlt, hx, hx']) | ((first | refine DW_exit ?_ | refine DW_skip ?_); simp [hnt, dStr, hlt, hx, hx']) | (intro hc; (try simp [hnt, dStr, hlt, hx, hx'] at hc); (try (exfalso; omega))) | ((first | refine callP_mk (h1) ?_ | (refine callP_wk (h1) ?_ ?_; (· (simp; done)))); try simp [hnt, dStr, hlt, hx, hx']) | (refine ⟨?_, ?_⟩; · omega) | omega | apply_assumption -exfalso -symm | (exfalso; omega)))
    · rw [hq] at hw h1
      simp only [Bool.true_and] at hw
      (repeat (first | refine DW_seq fun K hK => ?_ | (refine DW_r anWB617 Tryz.mixed (by kernel_rfl) ?_; simp [anWB617, hnt, dStr, hlt, hx, hx']; try simp (disch := omega) only [wrap64_in]) | refine DW_block ?_ | (refine DW_if ?_ ?_ ?_; (· (simp [hnt, dStr, hlt, hx, hx']; done)); (try (rotate_left; (· (intro hc; (try simp [hnt, dStr, hlt, hx, hx'] at hc); done))))) | (refine DW_ret ?_; simp [Tryz.results17, hnt, dStr, hlt, hx, hx']) | ((first | refine DW_exit ?_ | refine DW_skip ?_); simp [hnt, dStr, hlt, hx, hx']) | (intro hc; (try simp [hnt, dStr, hlt, hx, hx'] at hc); (try (exfalso; omega))) | ((first | refine callP_mk (h1) ?_ | (refine callP_wk (h1) ?_ ?_; (· (simp; done)))); try simp [hnt, dStr, hlt, hx, hx']) | (refine ⟨?_, ?_⟩; · omega) | omega | apply_assumption -exfalso -symm | (exfalso; omega)))
      exact Again.mk ⟨k + 1, by omega, hw⟩ (Sub.lit (by simp)) (by simp; omega)
      (repeat (first | refine DW_seq fun K hK => ?_ | (refine DW_r anWB617 Tryz.mixed (by kernel_rfl) ?_; simp [anWB617, hnt]; try simp (disch := omega) only [wrap64_in]) | refine DW_block ?_ | (refine DW_if ?_ ?_ ?_; (· (simp [hnt]; done)); (try (rotate_left; (· (intro hc; (try simp [hnt] at hc); done))))) | (refine DW_ret ?_; simp [Tryz.results17, hnt]) | ((first | refine DW_exit ?_ | refine DW_skip ?_); simp [hnt]) | (intro hc; (try simp [hnt] at hc); (try (exfalso; omega))) | ((first | refine callP_mk (h1) ?_ | (refine callP_wk (h1) ?_ ?_; (· (simp; done)))); try simp [hnt]) | (refine ⟨?_, ?_⟩; · omega) | omega | apply_assumption -exfalso -symm | (exfalso; omega)))
  · have hkk : k = ns.length := by omega
    subst hkk
    rw [List.drop_length] at hw
    simp only [List.all_nil, Bool.true_and] at hw
    (repeat (first | refine DW_seq fun K hK => ?_ | (refine DW_r anWB617 Tryz.mixed (by kernel_rfl) ?_; simp [anWB617, hnt]; try simp (disch := omega) only [wrap64_in]) | refine DW_block ?_ | (refine DW_if ?_ ?_ ?_; (· (simp [hnt]; done)); (try (rotate_left; (· (intro hc; (try simp [hnt] at hc); done))))) | (refine DW_ret ?_; simp [Tryz.results17, hnt]) | ((first | refine DW_exit ?_ | refine DW_skip ?_); simp [hnt]) | (intro hc; (try simp [hnt] at hc); (try (exfalso; omega))) | (refine ⟨?_, ?_⟩; · omega) | omega | apply_assumption -exfalso -symm | (exfalso; omega)))
    refine DW_loop (X := {k : Nat // k ≤ es.length ∧ R = (es.drop k).all edgeOK}) (fun k => ⟨[(1, dEds es), (7, .int .i64 k.1)], []⟩) (fun k => es.length - k.1) ⟨0, by simp [hw]⟩ (Sub.lit (by simp)) ?_
    rintro ⟨k, hk, hw⟩
    by_cases hlt : k < es.length
    · obtain ⟨x, hx, hx', _⟩ := at_lt' hlt
      rw [all_drop hx] at hw
      have h1 := rname_pure x.fr
      have h2 := rlabel_pure x.lb
      have h3 := rname_pure x.to
      cases hq1 : nameOK x.fr
      · rw [hq1] at h1
        have : edgeOK x = false := by unfold edgeOK; rw [hq1]; rfl
        rw [this] at hw
        simp only [Bool.false_and] at hw
        subst hw
        (repeat (first | refine DW_seq fun K hK => ?_ | (refine DW_r anWB617 Tryz.mixed (by kernel_rfl) ?_; simp [anWB617, hnt, dEdge, hlt, hx, hx']; try simp (disch := omega) only [wrap64_in]) | refine DW_block ?_ | (refine DW_if ?_ ?_ ?_; (· (simp [hnt, dEdge, hlt, hx, hx']; done)); (try (rotate_left; (· (intro hc; (try simp [hnt, dEdge, hlt, hx, hx'] at hc); done))))) | (refine DW_ret ?_; simp [Tryz.results17, hnt, dEdge, hlt, hx, hx']) | ((first | refine DW_exit ?_ | refine DW_skip ?_); simp [hnt, dEdge, hlt, hx, hx']) | (intro hc; (try simp [hnt, dEdge, hlt, hx, hx'] at hc); (try (exfalso; omega))) | ((first | refine callP_mk (h1) ?_ | refine callP_mk (h2) ?_ | refine callP_mk (h3) ?_ | (refine callP_wk (h1) ?_ ?_; (· (simp; done))) | (refine callP_wk (h2) ?_ ?_; (· (simp; done))) | (refine callP_wk (h3) ?_ ?_; (· (simp; done)))); try simp [hnt, dEdge, hlt, hx, hx']) | (refine ⟨?_, ?_⟩; · omega) | omega | apply_assumption -exfalso -symm | (exfalso; omega)))
      · rw [hq1] at h1
        cases hq2 : labelOK x.lb
        · rw [hq2] at h2
          have : edgeOK x = false := by unfold edgeOK; rw [hq2]; simp
          rw [this] at hw
          simp only [Bool.false_and] at hw
          subst hw
          (repeat (first | refine DW_seq fun K hK => ?_ | (refine DW_r anWB617 Tryz.mixed (by kernel_rfl) ?_; simp [anWB617, hnt, dEdge, hlt, hx, hx']; try simp (disch := omega) only [wrap64_in]) | refine DW_block ?_ | (refine DW_if ?_ ?_ ?_; (· (simp [hnt, dEdge, hlt, hx, hx']; done)); (try (rotate_left; (· (intro hc; (try simp [hnt, dEdge, hlt, hx, hx'] at hc); done))))) | (refine DW_ret ?_; simp [Tryz.results17, hnt, dEdge, hlt, hx, hx']) | ((first | refine DW_exit ?_ | refine DW_skip ?_); simp [hnt, dEdge, hlt, hx, hx']) | (intro hc; (try simp [hnt, dEdge, hlt, hx, hx'] at hc); (try (exfalso; omega))) | ((first | refine callP_mk (h1) ?_ | refine callP_mk (h2) ?_ | refine callP_mk (h3) ?_ | (refine callP_wk (h1) ?_ ?_; (· (simp; done))) | (refine callP_wk (h2) ?_ ?_; (· (simp; done))) | (refine callP_wk (h3) ?_ ?_; (· (simp; done)))); try simp [hnt, dEdge, hlt, hx, hx']) | (refine ⟨?_, ?_⟩; · omega) | omega | apply_assumption -exfalso -symm | (exfalso; omega)))
        · rw [hq2] at h2
          cases hq3 : nameOK x.to
          · rw [hq3] at h3
            have : edgeOK x = false := by unfold edgeOK; rw [hq3]; simp
            rw [this] at hw
            simp only [Bool.false_and] at hw
            subst hw
            (repeat (first | refine DW_seq fun K hK => ?_ | (refine DW_r anWB617 Tryz.mixed (by kernel_rfl) ?_; simp [anWB617, hnt, dEdge, hlt, hx, hx']; try simp (disch := omega) only [wrap64_in]) | refine DW_block ?_ | (refine DW_if ?_ ?_ ?_; (· (simp [hnt, dEdge, hlt, hx, hx']; done)); (try (rotate_left; (· (intro hc; (try simp [hnt, dEdge, hlt, hx, hx'] at hc); done))))) | (refine DW_ret ?_; simp [Tryz.results17, hnt, dEdge, hlt, hx, hx']) | ((first | refine DW_exit ?_ | refine DW_skip ?_); simp [hnt, dEdge, hlt, hx, hx']) | (intro hc; (try simp [hnt, dEdge, hlt, hx, hx'] at hc); (try (exfalso; omega))) | ((first | refine callP_mk (h1) ?_ | refine callP_mk (h2) ?_ | refine callP_mk (h3) ?_ | (refine callP_wk (h1) ?_ ?_; (· (simp; done))) | (refine callP_wk (h2) ?_ ?_; (· (simp; done))) | (refine callP_wk (h3) ?_ ?_; (· (simp; done)))); try simp [hnt, dEdge, hlt, hx, hx']) | (refine ⟨?_, ?_⟩; · omega) | omega | apply_assumption -exfalso -symm | (exfalso; omega)))
          · rw [hq3] at h3
            have : edgeOK x = true := by unfold edgeOK; rw [hq1, hq2, hq3]; rfl
            rw [this] at hw
            simp only [Bool.true_and] at hw
            (repeat (first | refine DW_seq fun K hK => ?_ | (refine DW_r anWB617 Tryz.mixed (by kernel_rfl) ?_; simp [anWB617, hnt, dEdge, hlt, hx, hx']; try simp (disch := omega) only [wrap64_in]) | refine DW_block ?_ | (refine DW_if ?_ ?_ ?_; (· (simp [hnt, dEdge, hlt, hx, hx']; done)); (try (rotate_left; (· (intro hc; (try simp [hnt, dEdge, hlt, hx, hx'] at hc); done))))) | (refine DW_ret ?_; simp [Tryz.results17, hnt, dEdge, hlt, hx, hx']) | ((first | refine DW_exit ?_ | refine DW_skip ?_); simp [hnt, dEdge, hlt, hx, hx']) | (intro hc; (try simp [hnt, dEdge, hlt, hx, hx'] at hc); (try (exfalso; omega))) | ((first | refine callP_mk (h1) ?_ | refine callP_mk (h2) ?_ | refine callP_mk (h3) ?_ | (refine callP_wk (h1) ?_ ?_; (· (simp; done))) | (refine callP_wk (h2) ?_ ?_; (· (simp; done))) | (refine callP_wk (h3) ?_ ?_; (· (simp; done)))); try simp [hnt, dEdge, hlt, hx, hx']) | (refine ⟨?_, ?_⟩; · omega) | omega | apply_assumption -exfalso -symm | (exfalso; omega)))
            exact Again.mk ⟨k + 1, by omega, hw⟩ (Sub.lit (by simp)) (by simp; omega)
            (repeat (first | refine DW_seq fun K hK => ?_ | (refine DW_r anWB617 Tryz.mixed (by kernel_rfl) ?_; simp [anWB617, hnt]; try simp (disch := omega) only [wrap64_in]) | refine DW_block ?_ | (refine DW_if ?_ ?_ ?_; (· (simp [hnt]; done)); (try (rotate_left; (· (intro hc; (try simp [hnt] at hc); done))))) | (refine DW_ret ?_; simp [Tryz.results17, hnt]) | ((first | refine DW_exit ?_ | refine DW_skip ?_); simp [hnt]) | (intro hc; (try simp [hnt] at hc); (try (exfalso; omega))) | ((first | refine callP_mk (h1) ?_ | refine callP_mk (h2) ?_ | refine callP_mk (h3) ?_ | (refine callP_wk (h1) ?_ ?_; (· (simp; done))) | (refine callP_wk (h2) ?_ ?_; (· (simp; done))) | (refine callP_wk (h3) ?_ ?_; (· (simp; done)))); try simp [hnt]) | (refine ⟨?_, ?_⟩; · omega) | omega | apply_assumption -exfalso -symm | (exfalso; omega)))
    · have hkk : k = es.length := by omega
      subst hkk
      rw [List.drop_length] at hw
      simp only [List.all_nil] at hw
      subst hw
      (repeat (first | refine DW_seq fun K hK => ?_ | (refine DW_r anWB617 Tryz.mixed (by kernel_rfl) ?_; simp [anWB617, hnt]; try simp (disch := omega) only [wrap64_in]) | refine DW_block ?_ | (refine DW_if ?_ ?_ ?_; (· (simp [hnt]; done)); (try (rotate_left; (· (intro hc; (try simp [hnt] at hc); done))))) | (refine DW_ret ?_; simp [Tryz.results17, hnt]) | ((first | refine DW_exit ?_ | refine DW_skip ?_); simp [hnt]) | (intro hc; (try simp [hnt] at hc); (try (exfalso; omega))) | (refine ⟨?_, ?_⟩; · omega) | omega | apply_assumption -exfalso -symm | (exfalso; omega)))
end Go.Proofs.YtffdjbdokgbibaaGreat
end

section
/- graphs: among, form -/

set_option linter.unusedSimpArgs false
set_option linter.unusedVariables false
namespace Go.Proofs.YtffdjbdokgbibaaGreat
open Go Go.Dm
attribute [local irreducible] DW callP callS
set_option maxRecDepth 100000

theorem risB_pair {l : List ByteArray} (h : risB sLess l = true) : l.Pairwise fun a b => sLess a b = true := by
  induction l with
  | nil => exact .nil
  | cons a l ih =>
    cases l with
    | nil => exact List.pairwise_singleton _ _
    | cons b l =>
      simp only [risB, Bool.and_eq_true] at h
      have ih := ih h.2
      refine List.pairwise_cons.2 ⟨fun x hx => ?_, ih⟩
      rcases List.mem_cons.1 hx with rfl | hx
      · exact h.1
      · exact sLess_trans h.1 ((List.pairwise_cons.1 ih).1 x hx)
theorem pair_at {l : List ByteArray} (h : l.Pairwise fun a b => sLess a b = true) {i j : Nat} {x y : ByteArray} (hij : i < j) (hx : l[i]? = some x) (hy : l[j]? = some y) : sLess x y = true := by
  obtain ⟨h1, rfl⟩ := List.getElem?_eq_some_iff.1 hx
  obtain ⟨h2, rfl⟩ := List.getElem?_eq_some_iff.1 hy
  exact (List.pairwise_iff_getElem.1 h) i j h1 h2 hij

def anWB780 : Ann := ⟨[], []⟩
theorem among_pure (l : List ByteArray) (s : ByteArray) (hs : l.Pairwise fun a b => sLess a b = true) : DPure Tryz.prog 80 [dStrs l, .str s] (.bool (decide (s ∈ l))) := by
  refine DPure_introF [] (fn := Tryz.f80) Tryz.func80 rfl Tryz.call80 (by simp [Tryz.ntmps80]) (by simp [mx]) ?_
  intro hwf B hnt
  simp only [Tryz.ntmps80] at hnt
  have hlen : l.length * 16 ≤ 150000000000000 := by have := hwf.1; simp only [wfD, List.length_map] at this; exact this.1
  clear hwf
  simp only [argS]
  obtain ⟨R, hR⟩ : ∃ R, R = decide (s ∈ l) := ⟨_, rfl⟩
  rw [← hR]
  (repeat (first | refine DW_seq fun K hK => ?_ | (refine DW_r anWB780 Tryz.mixed (by kernel_rfl) ?_; simp [anWB780, hnt]; try simp (disch := omega) only [wrap64_in]) | refine DW_block ?_ | (refine DW_if ?_ ?_ ?_; (· (simp [hnt]; done)); (try (rotate_left; (· (intro hc; (try simp [hnt] at hc); done))))) | (refine DW_ret ?_; simp [Tryz.results80, hnt]) | ((first | refine DW_exit ?_ | refine DW_skip ?_); simp [hnt]) | (intro hc; (try simp [hnt] at hc); (try (exfalso; omega))) | (refine ⟨?_, ?_⟩; · omega) | omega | apply_assumption -exfalso -symm | (exfalso; omega)))
  refine DW_loop (X := {x : Nat × Nat // x.1 ≤ x.2 ∧ x.2 ≤ l.length ∧ (∀ i y, i < x.1 → l[i]? = some y → sLess y s = true) ∧ (∀ i y, x.2 ≤ i → l[i]? = some y → sLess y s = false)})
    (fun x => ⟨[(0, dStrs l), (1, .str s), (5, .int .i64 x.1.1), (6, .int .i64 x.1.2)], []⟩) (fun x => x.1.2 - x.1.1) ⟨(0, l.length), by simp, by simp, by simp, fun i y hi hy => by
      have := (List.getElem?_eq_some_iff.1 hy).1
      simp only at hi; omega⟩ (Sub.lit (by simp)) ?_
  rintro ⟨⟨lo, hi⟩, h1, h2, h3, h4⟩
  simp only at h1 h2 h3 h4 ⊢
  by_cases hlt : lo < hi
  · obtain ⟨m, hm⟩ : ∃ m, m = (lo + hi) / 2 := ⟨_, rfl⟩
    have hml : m < l.length := by omega
    obtain ⟨y, hy, hy', _⟩ := at_lt' hml
    have w1 : IntKind.i64.wrap ((lo : Int) + hi) = (lo : Int) + hi := wrap64_in (by omega) (by omega)
    have w2 : ((lo : Int) + hi).tdiv 2 = (m : Int) := by
      rw [show (lo : Int) + hi = ((lo + hi : Nat) : Int) by omega, Int.tdiv_eq_ediv_of_nonneg (by omega), hm]
      omega
    have w3 : IntKind.i64.wrap (m : Int) = m := wrap64_in (by omega) (by omega)
    have hlt' : (lo : Int) < hi := by omega
    cases hcs : sLess y s
    · have hc2 : Op.bytesLess y.data.toList s.data.toList = false := hcs
      (repeat (first | refine DW_seq fun K hK => ?_ | (refine DW_r anWB780 Tryz.mixed (by kernel_rfl) ?_; simp [anWB780, hnt, dStr, hlt, hlt', w1, w2, w3, hml, hy, hy', hc2]; try simp (disch := omega) only [wrap64_in]) | refine DW_block ?_ | (refine DW_if ?_ ?_ ?_; (· (simp [hnt, dStr, hlt, hlt', w1, w2, w3, hml, hy, hy', hc2]; done)); (try (rotate_left; (· (intro hc; (try simp [hnt, dStr, hlt, hlt', w1, w2, w3, hml, hy, hy', hc2] at hc); done))))) | (refine DW_ret ?_; simp [Tryz.results80, hnt, dStr, hlt, hlt', w1, w2, w3, hml, hy, hy', hc2]) | ((first | refine DW_exit ?_ | refine DW_skip ?_); simp [hnt, dStr, hlt, hlt', w1, w2, w3, hml, hy, hy', hc2]) | (intro hc; (try simp [hnt, dStr, hlt, hlt', w1, w2, w3, hml, hy, hy', hc2] at hc); (try (exfalso; omega))) | (refine ⟨?_, ?_⟩; · omega) | omega | apply_assumption -exfalso -symm | (exfalso; omega)))
      refine Again.mk ⟨(lo, m), show lo ≤ m ∧ m ≤ l.length ∧ (∀ i y, i < lo → l[i]? = some y → sLess y s = true) ∧ (∀ i y, m ≤ i → l[i]? = some y → sLess y s = false) from ⟨by omega, by omega, h3, fun i z hi' hz => ?_⟩⟩ (Sub.lit (by simp)) (by simp; omega)
      · rcases Nat.lt_or_eq_of_le hi' with h | h
        · have := pair_at hs h hy hz
          cases hzs : sLess z s
          · rfl
          · have := sLess_trans this hzs; rw [hcs] at this; simp at this
        · subst h; rw [hy] at hz; simp only [Option.some.injEq] at hz; subst hz; exact hcs
      (repeat (first | refine DW_seq fun K hK => ?_ | (refine DW_r anWB780 Tryz.mixed (by kernel_rfl) ?_; simp [anWB780, hnt]; try simp (disch := omega) only [wrap64_in]) | refine DW_block ?_ | (refine DW_if ?_ ?_ ?_; (· (simp [hnt]; done)); (try (rotate_left; (· (intro hc; (try simp [hnt] at hc); done))))) | (refine DW_ret ?_; simp [Tryz.results80, hnt]) | ((first | refine DW_exit ?_ | refine DW_skip ?_); simp [hnt]) | (intro hc; (try simp [hnt] at hc); (try (exfalso; omega))) | (refine ⟨?_, ?_⟩; · omega) | omega | apply_assumption -exfalso -symm | (exfalso; omega)))
    · have hc2 : Op.bytesLess y.data.toList s.data.toList = true := hcs
      (repeat (first | refine DW_seq fun K hK => ?_ | (refine DW_r anWB780 Tryz.mixed (by kernel_rfl) ?_; simp [anWB780, hnt, dStr, hlt, hlt', w1, w2, w3, hml, hy, hy', hc2]; try simp (disch := omega) only [wrap64_in]) | refine DW_block ?_ | (refine DW_if ?_ ?_ ?_; (· (simp [hnt, dStr, hlt, hlt', w1, w2, w3, hml, hy, hy', hc2]; done)); (try (rotate_left; (· (intro hc; (try simp [hnt, dStr, hlt, hlt', w1, w2, w3, hml, hy, hy', hc2] at hc); done))))) | (refine DW_ret ?_; simp [Tryz.results80, hnt, dStr, hlt, hlt', w1, w2, w3, hml, hy, hy', hc2]) | ((first | refine DW_exit ?_ | refine DW_skip ?_); simp [hnt, dStr, hlt, hlt', w1, w2, w3, hml, hy, hy', hc2]) | (intro hc; (try simp [hnt, dStr, hlt, hlt', w1, w2, w3, hml, hy, hy', hc2] at hc); (try (exfalso; omega))) | (refine ⟨?_, ?_⟩; · omega) | omega | apply_assumption -exfalso -symm | (exfalso; omega)))
      refine Again.mk ⟨(m + 1, hi), show m + 1 ≤ hi ∧ hi ≤ l.length ∧ (∀ i y, i < m + 1 → l[i]? = some y → sLess y s = true) ∧ (∀ i y, hi ≤ i → l[i]? = some y → sLess y s = false) from ⟨by omega, h2, fun i z hi' hz => ?_, h4⟩⟩ (Sub.lit (by simp)) (by simp; omega)
      · rcases Nat.lt_or_eq_of_le (Nat.le_of_lt_succ hi') with h | h
        · exact sLess_trans (pair_at hs h hz hy) hcs
        · subst h; rw [hy] at hz; simp only [Option.some.injEq] at hz; subst hz; exact hcs
      (repeat (first | refine DW_seq fun K hK => ?_ | (refine DW_r anWB780 Tryz.mixed (by kernel_rfl) ?_; simp [anWB780, hnt]; try simp (disch := omega) only [wrap64_in]) | refine DW_block ?_ | (refine DW_if ?_ ?_ ?_; (· (simp [hnt]; done)); (try (rotate_left; (· (intro hc; (try simp [hnt] at hc); done))))) | (refine DW_ret ?_; simp [Tryz.results80, hnt]) | ((first | refine DW_exit ?_ | refine DW_skip ?_); simp [hnt]) | (intro hc; (try simp [hnt] at hc); (try (exfalso; omega))) | (refine ⟨?_, ?_⟩; · omega) | omega | apply_assumption -exfalso -symm | (exfalso; omega)))
  · have hhi : hi = lo := by omega
    subst hhi
    have hnl : ¬ (hi : Int) < hi := by omega
    by_cases hin : hi < l.length
    · obtain ⟨y, hy, hy', hym⟩ := at_lt' hin
      have hd : decide (s ∈ l) = (y == s) := by
        by_cases hys : y = s
        · subst hys; simp [hym]
        · have : ¬ s ∈ l := by
            intro hsm
            obtain ⟨j, hj, hjs⟩ := List.getElem_of_mem hsm
            have hj' : l[j]? = some s := by rw [List.getElem?_eq_getElem hj, hjs]
            rcases Nat.lt_trichotomy j hi with h | h | h
            · have := h3 j s h hj'; rw [sLess_irr] at this; simp at this
            · subst h; rw [hy] at hj'; simp at hj'; exact hys hj'
            · have := pair_at hs h hy hj'
              have := h4 hi y (Nat.le_refl _) hy
              simp_all
          simp [this, hys]
      rw [hd] at hR
      subst hR
      have hil : (hi : Int) < l.length := by omega
      (repeat (first | refine DW_seq fun K hK => ?_ | (refine DW_r anWB780 Tryz.mixed (by kernel_rfl) ?_; simp [anWB780, hnt, dStr, hnl, hin, hil, hy, hy']; try simp (disch := omega) only [wrap64_in]) | refine DW_block ?_ | (refine DW_if ?_ ?_ ?_; (· (simp [hnt, dStr, hnl, hin, hil, hy, hy']; done)); (try (rotate_left; (· (intro hc; (try simp [hnt, dStr, hnl, hin, hil, hy, hy'] at hc); done))))) | (refine DW_ret ?_; simp [Tryz.results80, hnt, dStr, hnl, hin, hil, hy, hy']) | ((first | refine DW_exit ?_ | refine DW_skip ?_); simp [hnt, dStr, hnl, hin, hil, hy, hy']) | (intro hc; (try simp [hnt, dStr, hnl, hin, hil, hy, hy'] at hc); (try (exfalso; omega))) | (refine ⟨?_, ?_⟩; · omega) | omega | apply_assumption -exfalso -symm | (exfalso; omega)))
    · have hnot : decide (s ∈ l) = false := by
        simp only [decide_eq_false_iff_not]
        intro hsm
        obtain ⟨j, hj, hjs⟩ := List.getElem_of_mem hsm
        have := h3 j s (by omega) (by rw [List.getElem?_eq_getElem hj, hjs])
        rw [sLess_irr] at this; simp at this
      rw [hnot] at hR
      subst hR
      have hil : ¬ (hi : Int) < l.length := by omega
      (repeat (first | refine DW_seq fun K hK => ?_ | (refine DW_r anWB780 Tryz.mixed (by kernel_rfl) ?_; simp [anWB780, hnt, dStr, hnl, hin, hil]; try simp (disch := omega) only [wrap64_in]) | refine DW_block ?_ | (refine DW_if ?_ ?_ ?_; (· (simp [hnt, dStr, hnl, hin, hil]; done)); (try (rotate_left; (· (intro hc; (try simp [hnt, dStr, hnl, hin, hil] at hc); done))))) | (refine DW_ret ?_; simp [Tryz.results80, hnt, dStr, hnl, hin, hil]) | ((first | refine DW_exit ?_ | refine DW_skip ?_); simp [hnt, dStr, hnl, hin, hil]) | (intro hc; (try simp [hnt, dStr, hnl, hin, hil] at hc); (try (exfalso; omega))) | (refine ⟨?_, ?_⟩; · omega) | omega | apply_assumption -exfalso -symm | (exfalso; omega)))

def inG (ns : List ByteArray) (e : Edge) : Bool := decide (e.fr ∈ ns) && decide (e.to ∈ ns)
def formB (g : Edges) : Bool := risB sLess g.nodes && (risB eLess g.edges && g.edges.all (inG g.nodes))

def strsD (l : List ByteArray) : List DVal := l.map DVal.str
theorem strsD_cons (x : ByteArray) (l : List ByteArray) : strsD (x :: l) = .str x :: strsD l := rfl
theorem lookS_none : ∀ {l : List ByteArray} {s : ByteArray}, ¬ s ∈ l → lookI (strsD l) (.str s) = none
  | [], _, _ => rfl
  | x :: l, s, h => by
    have h1 : (s == x) = false := by simp; intro e; exact h (by simp [e])
    have h2 := lookS_none (l := l) (s := s) fun hm => h (List.mem_cons_of_mem _ hm)
    simp [strsD_cons, lookI, cellsK, eqCs, eqC, h1, h2]
theorem lookS_some : ∀ {l : List ByteArray} {s : ByteArray}, s ∈ l → ∃ j, lookI (strsD l) (.str s) = some j ∧ j < l.length
  | [], _, h => by simp at h
  | x :: l, s, h => by
    by_cases h1 : s = x
    · subst h1; exact ⟨0, by simp [strsD_cons, lookI, cellsK, eqCs, eqC], by simp⟩
    · obtain ⟨j, h2, h3⟩ := lookS_some (l := l) (s := s) (by simpa [h1] using h)
      have h1b : (s == x) = false := by simpa using h1
      exact ⟨j + 1, by simp [strsD_cons, lookI, cellsK, eqCs, eqC, h1b, h2], by simp; omega⟩
theorem keyStrs (l : List ByteArray) : (strsD l).all (keyOK Tryz.prog 9) = true := by
  induction l with
  | nil => rfl
  | cons p l ih => rw [strsD_cons, List.all_cons, ih]; simp
@[simp] theorem mxL_strs (l : List ByteArray) : mxL (strsD l) = 0 := by
  induction l with
  | nil => rfl
  | cons a l ih => rw [strsD_cons]; simp [mxL, mx, ih]
def oneUp (n : Nat) : List DVal := (List.range n).map fun i : Nat => DVal.int .i64 ((i : Int) + 1)
@[simp] theorem mxL_oneUp (n : Nat) : mxL (oneUp n) = 0 := by
  unfold oneUp
  induction List.range n with
  | nil => rfl
  | cons a l ih => simp [mxL, mx, ih]
theorem oneUp_succ (n : Nat) : oneUp (n + 1) = oneUp n ++ [.int .i64 ((n : Int) + 1)] := by simp [oneUp, List.range_succ]
theorem oneUp_at {n j : Nat} (h : j < n) : (oneUp n)[j]? = some (.int .i64 ((j : Int) + 1)) := by simp [oneUp, h]

def anWB754 : Ann := ⟨[], [⟨11, [7], [], []⟩]⟩
set_option maxHeartbeats 2000000 in
theorem form101_pure (g : Edges) : DPure Tryz.prog 54 [.agg (dGr g)] (.bool (formB g)) := by
  refine DPure_introF [] (fn := Tryz.f54) Tryz.func54 rfl Tryz.call54 (by simp [Tryz.ntmps54]) (by simp [mx]) ?_
  intro hwf B hnt
  simp only [Tryz.ntmps54] at hnt
  obtain ⟨ns, es⟩ := g
  have hw1 : ns.length < 9223372036854775807 := len_strs (by have := hwf.1; simp only [wfD, dGr, wfL] at this; exact this.1)
  have hw2 : es.length < 9223372036854775807 := len_eds (by have := hwf.1; simp only [wfD, dGr, wfL] at this; exact this.2.1)
  clear hwf
  simp only [argS]
  obtain ⟨R, hR⟩ : ∃ R, R = formB ⟨ns, es⟩ := ⟨_, rfl⟩
  rw [← hR]
  unfold formB at hR
  simp only at hR
  have h1 := rising_str_pure ns
  have h2 := rising_edge_pure es
  cases hr1 : risB sLess ns
  · rw [hr1] at h1 hR
    simp only [Bool.false_and] at hR
    subst hR
    (repeat (first | refine DW_seq fun K hK => ?_ | (refine DW_r anWB754 Tryz.mixed (by kernel_rfl) ?_; simp [anWB754, hnt, dGr]; try simp (disch := omega) only [wrap64_in]) | refine DW_block ?_ | (refine DW_if ?_ ?_ ?_; (· (simp [hnt, dGr]; done)); (try (rotate_left; (· (intro hc; (try simp [hnt, dGr] at hc); done))))) | (refine DW_ret ?_; simp [Tryz.results54, hnt, dGr]) | ((first | refine DW_exit ?_ | refine DW_skip ?_); simp [hnt, dGr]) | (intro hc; (try simp [hnt, dGr] at hc); (try (exfalso; omega))) | ((first | refine callP_mk (h1) ?_ | refine callP_mk (h2) ?_ | (refine callP_wk (h1) ?_ ?_; (· (simp; done))) | (refine callP_wk (h2) ?_ ?_; (· (simp; done)))); try simp [hnt, dGr]) | (refine ⟨?_, ?_⟩; · omega) | omega | apply_assumption -exfalso -symm | (exfalso; omega)))
  rw [hr1] at h1 hR
  simp only [Bool.true_and] at hR
  cases hr2 : risB eLess es
  · rw [hr2] at h2 hR
    simp only [Bool.false_and] at hR
    subst hR
    (repeat (first | refine DW_seq fun K hK => ?_ | (refine DW_r anWB754 Tryz.mixed (by kernel_rfl) ?_; simp [anWB754, hnt, dGr]; try simp (disch := omega) only [wrap64_in]) | refine DW_block ?_ | (refine DW_if ?_ ?_ ?_; (· (simp [hnt, dGr]; done)); (try (rotate_left; (· (intro hc; (try simp [hnt, dGr] at hc); done))))) | (refine DW_ret ?_; simp [Tryz.results54, hnt, dGr]) | ((first | refine DW_exit ?_ | refine DW_skip ?_); simp [hnt, dGr]) | (intro hc; (try simp [hnt, dGr] at hc); (try (exfalso; omega))) | ((first | refine callP_mk (h1) ?_ | refine callP_mk (h2) ?_ | (refine callP_wk (h1) ?_ ?_; (· (simp; done))) | (refine callP_wk (h2) ?_ ?_; (· (simp; done)))); try simp [hnt, dGr]) | (refine ⟨?_, ?_⟩; · omega) | omega | apply_assumption -exfalso -symm | (exfalso; omega)))
  rw [hr2] at h2 hR
  simp only [Bool.true_and] at hR
  have hp := risB_pair hr1
  (repeat (first | refine DW_seq fun K hK => ?_ | (refine DW_r anWB754 Tryz.mixed (by kernel_rfl) ?_; simp [anWB754, hnt, dGr]; try simp (disch := omega) only [wrap64_in]) | refine DW_block ?_ | (refine DW_if ?_ ?_ ?_; (· (simp [hnt, dGr]; done)); (try (rotate_left; (· (intro hc; (try simp [hnt, dGr] at hc); done))))) | (refine DW_ret ?_; simp [Tryz.results54, hnt, dGr]) | ((first | refine DW_exit ?_ | refine DW_skip ?_); simp [hnt, dGr]) | (intro hc; (try simp [hnt, dGr] at hc); (try (exfalso; omega))) | ((first | refine callP_mk (h1) ?_ | refine callP_mk (h2) ?_ | (refine callP_wk (h1) ?_ ?_; (· (simp; done))) | (refine callP_wk (h2) ?_ ?_; (· (simp; done)))); try simp [hnt, dGr]) | (refine ⟨?_, ?_⟩; · omega) | omega | apply_assumption -exfalso -symm | (exfalso; omega)))
  refine DW_loop (X := {k : Nat // k ≤ ns.length}) (fun k => ⟨[(1, .ref [dStrs ns, dEds es]), (3, .omp 18 1), (20, dStrs ns), (21, .int .i64 ns.length), (22, .int .i64 k.1)], [⟨18, 1, .map (strsD (ns.take k.1)) (oneUp k.1)⟩]⟩) (fun k => ns.length - k.1) ⟨0, by omega⟩ (Sub.lit (by simp [oneUp, strsD])) ?_
  rintro ⟨k, hk⟩
  by_cases hlt : k < ns.length
  · obtain ⟨x, hx, hx', _⟩ := at_lt' hlt
    have hnew : lookI (strsD (ns.take k)) (.str x) = none := by
      apply lookS_none
      intro hm
      obtain ⟨i, hi, hix⟩ := List.getElem_of_mem hm
      rw [List.length_take] at hi
      have h3 : ns[i]? = some x := by
        rw [← hix, List.getElem_take, List.getElem?_eq_getElem]
      have := pair_at hp (by omega) h3 hx
      rw [sLess_irr] at this; simp at this
    have htk : strsD (ns.take (k + 1)) = strsD (ns.take k) ++ [.str x] := by
      unfold strsD; rw [List.take_succ_eq_append_getElem hlt, hx', List.map_append]; rfl
    have hup := oneUp_succ k
    have hks := keyStrs (ns.take k)
    obtain ⟨T, hT⟩ : ∃ T, T = strsD (ns.take k) := ⟨_, rfl⟩
    have hTm : mxL T = 0 := by rw [hT]; simp
    rw [← hT] at hnew htk hks ⊢
    (repeat (first | refine DW_seq fun K hK => ?_ | (refine DW_r anWB754 Tryz.mixed (by kernel_rfl) ?_; simp [anWB754, hnt, dStr, hlt, hx, hx', hnew, hks, hTm]; try simp (disch := omega) only [wrap64_in]) | refine DW_block ?_ | (refine DW_if ?_ ?_ ?_; (· (simp [hnt, dStr, hlt, hx, hx', hnew, hks, hTm]; done)); (try (rotate_left; (· (intro hc; (try simp [hnt, dStr, hlt, hx, hx', hnew, hks, hTm] at hc); done))))) | (refine DW_ret ?_; simp [Tryz.results54, hnt, dStr, hlt, hx, hx', hnew, hks, hTm]) | ((first | refine DW_exit ?_ | refine DW_skip ?_); simp [hnt, dStr, hlt, hx, hx', hnew, hks, hTm]) | (intro hc; (try simp [hnt, dStr, hlt, hx, hx', hnew, hks, hTm] at hc); (try (exfalso; omega))) | (refine ⟨?_, ?_⟩; · omega) | omega | apply_assumption -exfalso -symm | (exfalso; omega)))
    exact Again.mk ⟨k + 1, by omega⟩ (Sub.lit (by simp only [htk, hup]; simp [hTm])) (by simp; omega)
    (repeat (first | refine DW_seq fun K hK => ?_ | (refine DW_r anWB754 Tryz.mixed (by kernel_rfl) ?_; simp [anWB754, hnt]; try simp (disch := omega) only [wrap64_in]) | refine DW_block ?_ | (refine DW_if ?_ ?_ ?_; (· (simp [hnt]; done)); (try (rotate_left; (· (intro hc; (try simp [hnt] at hc); done))))) | (refine DW_ret ?_; simp [Tryz.results54, hnt]) | ((first | refine DW_exit ?_ | refine DW_skip ?_); simp [hnt]) | (intro hc; (try simp [hnt] at hc); (try (exfalso; omega))) | (refine ⟨?_, ?_⟩; · omega) | omega | apply_assumption -exfalso -symm | (exfalso; omega)))
  · have hkk : k = ns.length := by omega
    subst hkk
    rw [List.take_length]
    have hks := keyStrs ns
    (repeat (first | refine DW_seq fun K hK => ?_ | (refine DW_r anWB754 Tryz.mixed (by kernel_rfl) ?_; simp [anWB754, hnt]; try simp (disch := omega) only [wrap64_in]) | refine DW_block ?_ | (refine DW_if ?_ ?_ ?_; (· (simp [hnt]; done)); (try (rotate_left; (· (intro hc; (try simp [hnt] at hc); done))))) | (refine DW_ret ?_; simp [Tryz.results54, hnt]) | ((first | refine DW_exit ?_ | refine DW_skip ?_); simp [hnt]) | (intro hc; (try simp [hnt] at hc); (try (exfalso; omega))) | (refine ⟨?_, ?_⟩; · omega) | omega | apply_assumption -exfalso -symm | (exfalso; omega)))
    refine DW_loop (X := {k : Nat // k ≤ es.length ∧ R = (es.drop k).all (inG ns)}) (fun k => ⟨[(3, .omp 18 1), (33, dEds es), (34, .int .i64 es.length), (35, .int .i64 k.1)], [⟨18, 1, .map (strsD ns) (oneUp ns.length)⟩]⟩) (fun k => es.length - k.1) ⟨0, by simp [hR]⟩ (Sub.lit (by simp)) ?_
    rintro ⟨k, hk, hw⟩
    clear hR
    by_cases hlt : k < es.length
    · obtain ⟨x, hx, hx', _⟩ := at_lt' hlt
      rw [all_drop hx] at hw
      by_cases c1 : x.fr ∈ ns
      · obtain ⟨j1, l1, l2⟩ := lookS_some c1
        have v1 := oneUp_at l2
        have z1 : ((j1 : Int) + 1 == 0) = false := by simp; omega
        by_cases c2 : x.to ∈ ns
        · obtain ⟨j2, l3, l4⟩ := lookS_some c2
          have v2 := oneUp_at l4
          have z2 : ((j2 : Int) + 1 == 0) = false := by simp; omega
          have hi : inG ns x = true := by simp [inG, c1, c2]
          rw [hi] at hw
          simp only [Bool.true_and] at hw
          (repeat (first | refine DW_seq fun K hK => ?_ | (refine DW_r anWB754 Tryz.mixed (by kernel_rfl) ?_; simp [anWB754, hnt, dEdge, hlt, hx, hx', hks, l1, v1, z1, l3, v2, z2]; try simp (disch := omega) only [wrap64_in]) | refine DW_block ?_ | (refine DW_if ?_ ?_ ?_; (· (simp [hnt, dEdge, hlt, hx, hx', hks, l1, v1, z1, l3, v2, z2]; done)); (try (rotate_left; (· (intro hc; (try simp [hnt, dEdge, hlt, hx, hx', hks, l1, v1, z1, l3, v2, z2] at hc); done))))) | (refine DW_ret ?_; simp [Tryz.results54, hnt, dEdge, hlt, hx, hx', hks, l1, v1, z1, l3, v2, z2]) | ((first | refine DW_exit ?_ | refine DW_skip ?_); simp [hnt, dEdge, hlt, hx, hx', hks, l1, v1, z1, l3, v2, z2]) | (intro hc; (try simp [hnt, dEdge, hlt, hx, hx', hks, l1, v1, z1, l3, v2, z2] at hc); (try (exfalso; omega))) | (refine ⟨?_, ?_⟩; · omega) | omega | apply_assumption -exfalso -symm | (exfalso; omega)))
          exact Again.mk ⟨k + 1, by omega, hw⟩ (Sub.lit (by simp)) (by simp; omega)
          (repeat (first | refine DW_seq fun K hK => ?_ | (refine DW_r anWB754 Tryz.mixed (by kernel_rfl) ?_; simp [anWB754, hnt]; try simp (disch := omega) only [wrap64_in]) | refine DW_block ?_ | (refine DW_if ?_ ?_ ?_; (· (simp [hnt]; done)); (try (rotate_left; (· (intro hc; (try simp [hnt] at hc); done))))) | (refine DW_ret ?_; simp [Tryz.results54, hnt]) | ((first | refine DW_exit ?_ | refine DW_skip ?_); simp [hnt]) | (intro hc; (try simp [hnt] at hc); (try (exfalso; omega))) | (refine ⟨?_, ?_⟩; · omega) | omega | apply_assumption -exfalso -symm | (exfalso; omega)))
        · have l3 := lookS_none c2
          have hi : inG ns x = false := by simp [inG, c2]
          rw [hi] at hw
          simp only [Bool.false_and] at hw
          subst hw
          (repeat (first | refine DW_seq fun K hK => ?_ | (refine DW_r anWB754 Tryz.mixed (by kernel_rfl) ?_; simp [anWB754, hnt, dEdge, hlt, hx, hx', hks, l1, v1, z1, l3]; try simp (disch := omega) only [wrap64_in]) | refine DW_block ?_ | (refine DW_if ?_ ?_ ?_; (· (simp [hnt, dEdge, hlt, hx, hx', hks, l1, v1, z1, l3]; done)); (try (rotate_left; (· (intro hc; (try simp [hnt, dEdge, hlt, hx, hx', hks, l1, v1, z1, l3] at hc); done))))) | (refine DW_ret ?_; simp [Tryz.results54, hnt, dEdge, hlt, hx, hx', hks, l1, v1, z1, l3]) | ((first | refine DW_exit ?_ | refine DW_skip ?_); simp [hnt, dEdge, hlt, hx, hx', hks, l1, v1, z1, l3]) | (intro hc; (try simp [hnt, dEdge, hlt, hx, hx', hks, l1, v1, z1, l3] at hc); (try (exfalso; omega))) | (refine ⟨?_, ?_⟩; · omega) | omega | apply_assumption -exfalso -symm | (exfalso; omega)))
      · have l1 := lookS_none c1
        have hi : inG ns x = false := by simp [inG, c1]
        rw [hi] at hw
        simp only [Bool.false_and] at hw
        subst hw
        by_cases c2 : x.to ∈ ns
        · obtain ⟨j2, l3, l4⟩ := lookS_some c2
          have v2 := oneUp_at l4
          (repeat (first | refine DW_seq fun K hK => ?_ | (refine DW_r anWB754 Tryz.mixed (by kernel_rfl) ?_; simp [anWB754, hnt, dEdge, hlt, hx, hx', hks, l1, l3, v2]; try simp (disch := omega) only [wrap64_in]) | refine DW_block ?_ | (refine DW_if ?_ ?_ ?_; (· (simp [hnt, dEdge, hlt, hx, hx', hks, l1, l3, v2]; done)); (try (rotate_left; (· (intro hc; (try simp [hnt, dEdge, hlt, hx, hx', hks, l1, l3, v2] at hc); done))))) | (refine DW_ret ?_; simp [Tryz.results54, hnt, dEdge, hlt, hx, hx', hks, l1, l3, v2]) | ((first | refine DW_exit ?_ | refine DW_skip ?_); simp [hnt, dEdge, hlt, hx, hx', hks, l1, l3, v2]) | (intro hc; (try simp [hnt, dEdge, hlt, hx, hx', hks, l1, l3, v2] at hc); (try (exfalso; omega))) | (refine ⟨?_, ?_⟩; · omega) | omega | apply_assumption -exfalso -symm | (exfalso; omega)))
        · have l3 := lookS_none c2
          (repeat (first | refine DW_seq fun K hK => ?_ | (refine DW_r anWB754 Tryz.mixed (by kernel_rfl) ?_; simp [anWB754, hnt, dEdge, hlt, hx, hx', hks, l1, l3]; try simp (disch := omega) only [wrap64_in]) | refine DW_block ?_ | (refine DW_if ?_ ?_ ?_; (· (simp [hnt, dEdge, hlt, hx, hx', hks, l1, l3]; done)); (try (rotate_left; (· (intro hc; (try simp [hnt, dEdge, hlt, hx, hx', hks, l1, l3] at hc); done))))) | (refine DW_ret ?_; simp [Tryz.results54, hnt, dEdge, hlt, hx, hx', hks, l1, l3]) | ((first | refine DW_exit ?_ | refine DW_skip ?_); simp [hnt, dEdge, hlt, hx, hx', hks, l1, l3]) | (intro hc; (try simp [hnt, dEdge, hlt, hx, hx', hks, l1, l3] at hc); (try (exfalso; omega))) | (refine ⟨?_, ?_⟩; · omega) | omega | apply_assumption -exfalso -symm | (exfalso; omega)))
    · have hkk : k = es.length := by omega
      subst hkk
      rw [List.drop_length] at hw
      simp only [List.all_nil] at hw
      subst hw
      (repeat (first | refine DW_seq fun K hK => ?_ | (refine DW_r anWB754 Tryz.mixed (by kernel_rfl) ?_; simp [anWB754, hnt]; try simp (disch := omega) only [wrap64_in]) | refine DW_block ?_ | (refine DW_if ?_ ?_ ?_; (· (simp [hnt]; done)); (try (rotate_left; (· (intro hc; (try simp [hnt] at hc); done))))) | (refine DW_ret ?_; simp [Tryz.results54, hnt]) | ((first | refine DW_exit ?_ | refine DW_skip ?_); simp [hnt]) | (intro hc; (try simp [hnt] at hc); (try (exfalso; omega))) | (refine ⟨?_, ?_⟩; · omega) | omega | apply_assumption -exfalso -symm | (exfalso; omega)))
end Go.Proofs.YtffdjbdokgbibaaGreat
end

section
/- graphs: form by definition -/

set_option linter.unusedSimpArgs false
set_option linter.unusedVariables false
namespace Go.Proofs.YtffdjbdokgbibaaGreat
open Go Go.Dm
attribute [local irreducible] DW callP callS
set_option maxRecDepth 100000

end Go.Proofs.YtffdjbdokgbibaaGreat
end

section
/- lists of texts, each once, rising. Plain Lean. -/



set_option linter.unusedSimpArgs false
set_option linter.unusedVariables false
namespace Go.Proofs.YtffdjbdokgbibaaGreat
open Go Go.Dm

abbrev Str (l : List ByteArray) : Prop := l.Pairwise fun a b => sLess a b = true
theorem strict_ext : ∀ {a b : List ByteArray}, Str a → Str b → (∀ x, x ∈ a ↔ x ∈ b) → a = b
  | [], [], _, _, _ => rfl
  | [], y :: b, _, _, h => by have := (h y).2 List.mem_cons_self; simp at this
  | x :: a, [], _, _, h => by have := (h x).1 List.mem_cons_self; simp at this
  | x :: a, y :: b, ha, hb, h => by
    obtain ⟨ha1, ha2⟩ := List.pairwise_cons.1 ha
    obtain ⟨hb1, hb2⟩ := List.pairwise_cons.1 hb
    have hxy : x = y := by
      rcases List.mem_cons.1 ((h x).1 List.mem_cons_self) with h1 | h1
      · exact h1
      · rcases List.mem_cons.1 ((h y).2 List.mem_cons_self) with h2 | h2
        · exact h2.symm
        · have := sLess_asym (hb1 x h1); rw [ha1 y h2] at this; simp at this
    subst hxy
    rw [strict_ext ha2 hb2 fun z => ?_]
    constructor
    · intro hz
      rcases List.mem_cons.1 ((h z).1 (List.mem_cons_of_mem _ hz)) with h1 | h1
      · subst h1; have := ha1 z hz; rw [sLess_irr] at this; simp at this
      · exact h1
    · intro hz
      rcases List.mem_cons.1 ((h z).2 (List.mem_cons_of_mem _ hz)) with h1 | h1
      · subst h1; have := hb1 z hz; rw [sLess_irr] at this; simp at this
      · exact h1

theorem bl_lt : ∀ a b : List UInt8, Op.bytesLess a b = true ↔ a < b
  | [], [] => by simp [Op.bytesLess]
  | [], _ :: _ => by simp [Op.bytesLess]
  | _ :: _, [] => by simp [Op.bytesLess]
  | x :: a, y :: b => by
    rw [List.cons_lt_cons_iff]
    simp only [Op.bytesLess, Bool.or_eq_true, Bool.and_eq_true, decide_eq_true_eq, beq_iff_eq, bl_lt a b]
theorem ssort_mem (l : List ByteArray) (x : ByteArray) : x ∈ ssort l ↔ x ∈ l := by
  unfold ssort
  simp only [List.mem_map, (List.mergeSort_perm _ _).mem_iff]
  constructor
  · rintro ⟨y, ⟨z, hz, rfl⟩, rfl⟩; exact hz
  · intro h; exact ⟨_, ⟨x, h, rfl⟩, rfl⟩
theorem ssort_sorted (l : List ByteArray) : (ssort l).Pairwise fun a b => sLess b a = false := by
  unfold ssort
  rw [List.pairwise_map]
  have h := List.pairwise_mergeSort (le := fun x y : List UInt8 => decide (x ≤ y)) (by
    intro a b c h1 h2
    simp only [decide_eq_true_eq] at *
    exact List.le_trans h1 h2) (by
    intro a b
    simp only [Bool.or_eq_true, decide_eq_true_eq]
    exact List.le_total a b) (l.map fun s => s.data.toList)
  refine h.imp ?_
  intro a b hab
  simp only [decide_eq_true_eq] at hab
  have : ¬ Op.bytesLess b a = true := fun h => by
    rw [bl_lt] at h
    exact (List.not_lt.2 hab) h
  simpa [sLess] using this
def eqT (a b : ByteArray) : Bool := a == b
theorem compGoS_ok : ∀ {l : List ByteArray} {p : ByteArray}, (p :: l).Pairwise (fun a b => sLess b a = false) → Str (compGo eqT p l) ∧ (∀ x ∈ compGo eqT p l, sLess p x = true) ∧ ∀ x, (x = p ∨ x ∈ compGo eqT p l) ↔ (x = p ∨ x ∈ l)
  | [], p, _ => ⟨.nil, by simp [compGo], by simp [compGo]⟩
  | y :: l, p, h => by
    obtain ⟨h1, h2⟩ := List.pairwise_cons.1 h
    obtain ⟨g1, g2, g3⟩ := compGoS_ok h2
    unfold compGo
    by_cases hyp : y = p
    · subst hyp
      rw [if_pos (by simp [eqT])]
      refine ⟨g1, g2, fun x => ?_⟩
      rw [g3 x]
      simp only [List.mem_cons]
      constructor
      · rintro (h | h)
        · exact .inl h
        · exact .inr (.inr h)
      · rintro (h | h | h)
        · exact .inl h
        · exact .inl h
        · exact .inr h
    · rw [if_neg (by simp [eqT, hyp])]
      have hpy : sLess p y = true := by
        cases hc : sLess p y
        · exact absurd (sLess_tri hc (h1 y List.mem_cons_self)).symm hyp
        · rfl
      refine ⟨List.pairwise_cons.2 ⟨g2, g1⟩, fun x hx => ?_, fun x => ?_⟩
      · rcases List.mem_cons.1 hx with rfl | hx
        · exact hpy
        · exact sLess_trans hpy (g2 x hx)
      · simp only [List.mem_cons]
        rw [g3 x]
/-- each text once, rising -/
def uniqS (l : List ByteArray) : List ByteArray := compL eqT (ssort l)
theorem uniqS_ok (l : List ByteArray) : Str (uniqS l) ∧ ∀ x, x ∈ uniqS l ↔ x ∈ l := by
  unfold uniqS
  have h := ssort_sorted l
  have hm := ssort_mem l
  cases hs : ssort l with
  | nil =>
    rw [hs] at hm
    exact ⟨.nil, by simpa [compL] using hm⟩
  | cons p t =>
    rw [hs] at h hm
    obtain ⟨g1, g2, g3⟩ := compGoS_ok h
    refine ⟨List.pairwise_cons.2 ⟨g2, g1⟩, fun x => ?_⟩
    simp only [compL, List.mem_cons]
    rw [g3 x, ← hm x]
    simp
theorem compGoS_len {α : Type} (e : α → α → Bool) : ∀ (l : List α) (p : α), (compGo e p l).length ≤ l.length
  | [], _ => by simp [compGo]
  | y :: l, p => by
    unfold compGo
    split
    · have := compGoS_len e l y; simp; omega
    · have := compGoS_len e l y; simp; omega
theorem uniqS_len (l : List ByteArray) : (uniqS l).length ≤ l.length := by
  unfold uniqS
  have h := ssort_len l
  cases hs : ssort l with
  | nil => simp [compL]
  | cons p t =>
    rw [hs] at h
    have := compGoS_len eqT t p
    simp only [compL, List.length_cons] at h ⊢
    omega
theorem uniq_of {l a : List ByteArray} (ha : Str a) (h : ∀ x, x ∈ a ↔ x ∈ l) : a = uniqS l := by
  obtain ⟨g1, g2⟩ := uniqS_ok l
  exact strict_ext ha g1 fun x => by rw [h x, g2 x]

/-- two rising lists as one -/
def mergeL : List ByteArray → List ByteArray → List ByteArray
  | [], [] => []
  | [], y :: b => y :: mergeL [] b
  | x :: a, [] => x :: mergeL a []
  | x :: a, y :: b => if sLess x y then x :: mergeL a (y :: b) else if x == y then y :: mergeL a b else y :: mergeL (x :: a) b
termination_by a b => a.length + b.length
theorem mergeL_mem : ∀ (a b : List ByteArray) (z : ByteArray), z ∈ mergeL a b ↔ z ∈ a ∨ z ∈ b
  | [], [], z => by simp [mergeL]
  | [], y :: b, z => by simp [mergeL, mergeL_mem [] b z]
  | x :: a, [], z => by simp [mergeL, mergeL_mem a [] z]
  | x :: a, y :: b, z => by
    unfold mergeL
    split
    · simp only [List.mem_cons, mergeL_mem a (y :: b) z]
      constructor
      · rintro (h | h | h | h) <;> simp [h]
      · rintro ((h | h) | h | h) <;> simp [h]
    · split
      · rename_i h1 h2
        have h2 : x = y := by simpa using h2
        subst h2
        simp only [List.mem_cons, mergeL_mem a b z]
        constructor
        · rintro (h | h | h) <;> simp [h]
        · rintro ((h | h) | h | h) <;> simp [h]
      · simp only [List.mem_cons, mergeL_mem (x :: a) b z]
        constructor
        · rintro (h | (h | h) | h) <;> simp [h]
        · rintro ((h | h) | h | h) <;> simp [h]
termination_by a b => a.length + b.length
theorem mergeL_str : ∀ (a b : List ByteArray), Str a → Str b → Str (mergeL a b)
  | [], [], _, _ => by simp [mergeL]
  | [], y :: b, ha, hb => by
    obtain ⟨h1, h2⟩ := List.pairwise_cons.1 hb
    unfold mergeL
    refine List.pairwise_cons.2 ⟨fun z hz => ?_, mergeL_str [] b ha h2⟩
    rw [mergeL_mem] at hz
    exact h1 z (by simpa using hz)
  | x :: a, [], ha, hb => by
    obtain ⟨h1, h2⟩ := List.pairwise_cons.1 ha
    unfold mergeL
    refine List.pairwise_cons.2 ⟨fun z hz => ?_, mergeL_str a [] h2 hb⟩
    rw [mergeL_mem] at hz
    exact h1 z (by simpa using hz)
  | x :: a, y :: b, ha, hb => by
    obtain ⟨h1, h2⟩ := List.pairwise_cons.1 ha
    obtain ⟨h3, h4⟩ := List.pairwise_cons.1 hb
    unfold mergeL
    split
    · rename_i hlt
      refine List.pairwise_cons.2 ⟨fun z hz => ?_, mergeL_str a (y :: b) h2 hb⟩
      rw [mergeL_mem] at hz
      rcases hz with hz | hz
      · exact h1 z hz
      · rcases List.mem_cons.1 hz with rfl | hz
        · exact hlt
        · exact sLess_trans hlt (h3 z hz)
    · rename_i hlt
      split
      · rename_i he
        have he : x = y := by simpa using he
        subst he
        refine List.pairwise_cons.2 ⟨fun z hz => ?_, mergeL_str a b h2 h4⟩
        rw [mergeL_mem] at hz
        rcases hz with hz | hz
        · exact h1 z hz
        · exact h3 z hz
      · rename_i he
        have hyx : sLess y x = true := by
          cases hc : sLess y x
          · exact absurd (by simpa using sLess_tri (by simpa using hlt) hc) he
          · rfl
        refine List.pairwise_cons.2 ⟨fun z hz => ?_, mergeL_str (x :: a) b ha h4⟩
        rw [mergeL_mem] at hz
        rcases hz with hz | hz
        · rcases List.mem_cons.1 hz with rfl | hz
          · exact hyx
          · exact sLess_trans hyx (h1 z hz)
        · exact h3 z hz
termination_by a b => a.length + b.length
theorem merge_uniq (a b : List ByteArray) : mergeL (uniqS a) (uniqS b) = uniqS (a ++ b) := by
  obtain ⟨a1, a2⟩ := uniqS_ok a
  obtain ⟨b1, b2⟩ := uniqS_ok b
  exact uniq_of (mergeL_str _ _ a1 b1) fun x => by rw [mergeL_mem, a2, b2, List.mem_append]
theorem uniq_small {l : List ByteArray} (h : l.length < 2) : uniqS l = l := by
  refine (uniq_of ?_ fun x => Iff.rfl).symm
  match l, h with
  | [], _ => exact .nil
  | [a], _ => exact List.pairwise_singleton _ _
end Go.Proofs.YtffdjbdokgbibaaGreat
end

