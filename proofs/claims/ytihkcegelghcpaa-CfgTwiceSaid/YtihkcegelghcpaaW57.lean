/- A part of a proof: walks over the functions that it names; their contracts hold for every argument. -/
import Derived.Test.YtihkcegelghcpaaW96
set_option linter.unusedSimpArgs false
set_option linter.unusedVariables false
namespace Go.Proofs.Ytihkcegelghcpaa
open Go Go.Dm
attribute [local irreducible] DW callP callS
set_option maxRecDepth 100000

def anW5757 : Ann := ⟨[], [⟨3, [], [], [2, 3]⟩]⟩
theorem rev_nil : DPure Try.prog 57 [dSyms []] (.tup []) := by
  refine DPure_introF [] (fn := Try.f57) Try.func57 rfl Try.call57 (by simp [Try.ntmps57]) (by simp [mx]) ?_
  intro hwf B hnt
  simp only [argS]
  (repeat (first
      | (refine DW_seq fun K hK => ?_)
      | (refine DW_r anW5757 Try.mixed (by kernel_rfl) ?_; simp [hnt, Try.ntmps57, Try.results57, anW5757]; try simp (disch := omega) only [wrap64_in])
      | (refine DW_block ?_)
      | (focus (refine DW_if ?_ ?_ ?_; (· (simp [hnt, Try.ntmps57, Try.results57, anW5757]; done)); (try (rotate_left; (· (intro hc; (try simp [hnt, Try.ntmps57, Try.results57, anW5757] at hc); done))))))
      | (refine DW_ret ?_; simp [hnt, Try.ntmps57, Try.results57, anW5757])
      | (refine DW_exit ?_; simp [hnt, Try.ntmps57, Try.results57, anW5757])
      | (refine DW_skip ?_; simp [hnt, Try.ntmps57, Try.results57, anW5757])
      | (intro hc; (try simp [hnt, Try.ntmps57, Try.results57, anW5757] at hc); done)
      | (intro hc; (try simp [hnt, Try.ntmps57, Try.results57, anW5757] at hc); (first | (exfalso; omega) | skip))
      | (refine ⟨?_, ?_⟩; · omega)
      | omega
      | apply_assumption -exfalso -symm
      | (exfalso; omega)))
  refine DW_loop (X := Unit) (fun _ => ⟨[(2, .int .i64 0), (3, .int .i64 (-1))], []⟩) (fun _ => 0) () (Sub.lit (by simp)) ?_
  intro _
  (repeat (first
      | (refine DW_seq fun K hK => ?_)
      | (refine DW_r anW5757 Try.mixed (by kernel_rfl) ?_; simp [hnt, Try.ntmps57, Try.results57, anW5757]; try simp (disch := omega) only [wrap64_in])
      | (refine DW_block ?_)
      | (focus (refine DW_if ?_ ?_ ?_; (· (simp [hnt, Try.ntmps57, Try.results57, anW5757]; done)); (try (rotate_left; (· (intro hc; (try simp [hnt, Try.ntmps57, Try.results57, anW5757] at hc); done))))))
      | (refine DW_ret ?_; simp [hnt, Try.ntmps57, Try.results57, anW5757])
      | (refine DW_exit ?_; simp [hnt, Try.ntmps57, Try.results57, anW5757])
      | (refine DW_skip ?_; simp [hnt, Try.ntmps57, Try.results57, anW5757])
      | (intro hc; (try simp [hnt, Try.ntmps57, Try.results57, anW5757] at hc); done)
      | (intro hc; (try simp [hnt, Try.ntmps57, Try.results57, anW5757] at hc); (first | (exfalso; omega) | skip))
      | (refine ⟨?_, ?_⟩; · omega)
      | omega
      | apply_assumption -exfalso -symm
      | (exfalso; omega)))

/-- what a reversal holds when the i outermost pairs are exchanged -/
def revAt (l : List Sym) (i : Nat) (R : List Sym) : Prop := R.length = l.length ∧ ∀ q, q < l.length → R[q]? = if q < i ∨ l.length - 1 - q < i then l[l.length - 1 - q]? else l[q]?
theorem revAt_end {l R : List Sym} {i : Nat} (h : revAt l i R) (hi : l.length ≤ 2 * i + 1) : R = l.reverse := by
  obtain ⟨h1, h2⟩ := h
  apply List.ext_getElem?
  intro q
  by_cases hq : q < l.length
  · rw [h2 q hq, List.getElem?_reverse hq]
    split
    · rfl
    · congr 1; omega
  · rw [List.getElem?_eq_none (by omega), List.getElem?_eq_none (by simp; omega)]
theorem revAt_step {l R : List Sym} {i : Nat} {x y : Sym} (h : revAt l i R) (hi : 2 * i + 1 < l.length) (hx : l[i]? = some x) (hy : l[l.length - 1 - i]? = some y) : revAt l (i + 1) ((R.set i y).set (l.length - 1 - i) x) := by
  obtain ⟨h1, h2⟩ := h
  refine ⟨by simp [h1], fun q hq => ?_⟩
  by_cases hq1 : q = l.length - 1 - i
  · subst hq1
    rw [List.getElem?_set_self (by simp; omega), if_pos (.inr (by omega)), show l.length - 1 - (l.length - 1 - i) = i by omega]
    exact hx.symm
  · rw [List.getElem?_set_ne (by omega)]
    by_cases hq2 : q = i
    · subst hq2
      rw [List.getElem?_set_self (by omega), if_pos (.inl (by omega))]
      exact hy.symm
    · rw [List.getElem?_set_ne (by omega), h2 q hq]
      by_cases hc : q < i ∨ l.length - 1 - q < i
      · rw [if_pos hc, if_pos (by omega)]
      · rw [if_neg hc, if_neg (by omega)]

set_option maxHeartbeats 2000000 in
theorem rev_spec (l : List Sym) : DSpec Try.prog (.func 57) [.osl 0 0] [⟨0, 0, .row 75 2 16 (l.map dSym)⟩] (.tup []) [⟨0, 0, .row 75 2 16 (l.reverse.map dSym)⟩] := by
  refine DSpec_introW [] [(0, 0, 0)] (fn := Try.f57) Try.func57 rfl Try.call57 (by simp [Try.ntmps57]) (by simp) (by simp) ?_
  intro hwf hwo B hnt
  simp only [argS]
  have hl : l.length ≤ 9223372036854775807 := by
    simp only [wfOwn, maxLen, List.length_map] at hwo
    omega
  clear hwo
  have hmx : mxR ((l.map dSym).reverse) = 0 := by rw [← List.map_reverse]; exact mx_dSyms _
  have hwr : IntKind.i64.wrap ((l.length : Int) - 1) = (l.length : Int) - 1 := wrap64_in (by omega) (by omega)
  (repeat (first
      | (refine DW_seq fun K hK => ?_)
      | (refine DW_r anW5757 Try.mixed (by kernel_rfl) ?_; simp [hnt, Try.ntmps57, Try.results57, anW5757, hwr]; try simp (disch := omega) only [wrap64_in])
      | (refine DW_block ?_)
      | (focus (refine DW_if ?_ ?_ ?_; (· (simp [hnt, Try.ntmps57, Try.results57, anW5757, hwr]; done)); (try (rotate_left; (· (intro hc; (try simp [hnt, Try.ntmps57, Try.results57, anW5757, hwr] at hc); done))))))
      | (refine DW_ret ?_; simp [hnt, Try.ntmps57, Try.results57, anW5757, hwr])
      | (refine DW_exit ?_; simp [hnt, Try.ntmps57, Try.results57, anW5757, hwr])
      | (refine DW_skip ?_; simp [hnt, Try.ntmps57, Try.results57, anW5757, hwr])
      | (intro hc; (try simp [hnt, Try.ntmps57, Try.results57, anW5757, hwr] at hc); done)
      | (intro hc; (try simp [hnt, Try.ntmps57, Try.results57, anW5757, hwr] at hc); (first | (exfalso; omega) | skip))
      | (refine ⟨?_, ?_⟩; · omega)
      | omega
      | apply_assumption -exfalso -symm
      | (exfalso; omega)))
  refine DW_loop (X := {x : Nat × List Sym // 2 * x.1 ≤ l.length + 1 ∧ revAt l x.1 x.2}) (fun x => ⟨[(0, .osl 0 0), (2, .int .i64 x.1.1), (3, .int .i64 ((l.length : Int) - 1 - x.1.1))], [⟨0, 0, .row 75 2 16 (x.1.2.map dSym)⟩]⟩) (fun x => l.length - x.1.1) ⟨(0, l), show 2 * 0 ≤ l.length + 1 ∧ revAt l 0 l from ⟨by omega, rfl, fun q hq => by simp⟩⟩ (Sub.lit (by simp)) ?_
  rintro ⟨⟨i, R⟩, h1, h2⟩
  simp only at h1 h2 ⊢
  by_cases hi : 2 * i + 1 < l.length
  · obtain ⟨x, hx, hx', _⟩ := at_lt' (show i < l.length by omega)
    obtain ⟨y, hy, hy', _⟩ := at_lt' (show l.length - 1 - i < l.length by omega)
    have hRx : R[i]? = some x := by rw [h2.2 i (by omega), if_neg (by omega)]; exact hx
    have hRy : R[l.length - 1 - i]? = some y := by rw [h2.2 _ (by omega), if_neg (by omega)]; exact hy
    have hRx' : R[i]'(by have := h2.1; omega) = x := (List.getElem?_eq_some_iff.1 hRx).2
    have hRy' : R[l.length - 1 - i]'(by have := h2.1; omega) = y := (List.getElem?_eq_some_iff.1 hRy).2
    have hlt : (i : Int) < (l.length : Int) - 1 - i := by omega
    have ht : ((l.length : Int) - 1 - i).toNat = l.length - 1 - i := by omega
    have hb1 : (0 : Int) ≤ (l.length : Int) - 1 - i := by omega
    have hb2 : (l.length : Int) - 1 - i < l.length := by omega
    have hb3 : (i : Int) < l.length := by omega
    have hb4 : i < l.length := by omega
    have hb5 : l.length - 1 - i < l.length := by omega
    have hRl := h2.1
    have hw1 : IntKind.i64.wrap ((l.length : Int) - 1 - i - 1) = (l.length : Int) - 1 - i - 1 := wrap64_in (by omega) (by omega)
    have hst := revAt_step h2 hi hx hy
    have hne : ¬ i = l.length - 1 - i := by omega
    have hmr : mxR (((R.map dSym).set i [.bool y.label, .int .i64 y.n]).set (l.length - 1 - i) [.bool x.label, .int .i64 x.n]) = 0 := by
      have := mx_dSyms ((R.set i y).set (l.length - 1 - i) x)
      simpa [List.map_set, dSym] using this
    (repeat (first
        | (refine DW_seq fun K hK => ?_)
        | (refine DW_r anW5757 Try.mixed (by kernel_rfl) ?_; simp [hnt, Try.ntmps57, Try.results57, anW5757, dSym, hlt, ht, hb1, hb2, hb3, hb4, hb5, hRx, hRy, hRx', hRy', hRl, hw1, hne]; try simp (disch := omega) only [wrap64_in])
        | (refine DW_block ?_)
        | (focus (refine DW_if ?_ ?_ ?_; (· (simp [hnt, Try.ntmps57, Try.results57, anW5757, dSym, hlt, ht, hb1, hb2, hb3, hb4, hb5, hRx, hRy, hRx', hRy', hRl, hw1, hne]; done)); (try (rotate_left; (· (intro hc; (try simp [hnt, Try.ntmps57, Try.results57, anW5757, dSym, hlt, ht, hb1, hb2, hb3, hb4, hb5, hRx, hRy, hRx', hRy', hRl, hw1, hne] at hc); done))))))
        | (refine DW_ret ?_; simp [hnt, Try.ntmps57, Try.results57, anW5757, dSym, hlt, ht, hb1, hb2, hb3, hb4, hb5, hRx, hRy, hRx', hRy', hRl, hw1, hne])
        | (refine DW_exit ?_; simp [hnt, Try.ntmps57, Try.results57, anW5757, dSym, hlt, ht, hb1, hb2, hb3, hb4, hb5, hRx, hRy, hRx', hRy', hRl, hw1, hne])
        | (refine DW_skip ?_; simp [hnt, Try.ntmps57, Try.results57, anW5757, dSym, hlt, ht, hb1, hb2, hb3, hb4, hb5, hRx, hRy, hRx', hRy', hRl, hw1, hne])
        | (intro hc; (try simp [hnt, Try.ntmps57, Try.results57, anW5757, dSym, hlt, ht, hb1, hb2, hb3, hb4, hb5, hRx, hRy, hRx', hRy', hRl, hw1, hne] at hc); done)
        | (intro hc; (try simp [hnt, Try.ntmps57, Try.results57, anW5757, dSym, hlt, ht, hb1, hb2, hb3, hb4, hb5, hRx, hRy, hRx', hRy', hRl, hw1, hne] at hc); (first | (exfalso; omega) | skip))
        | (refine ⟨?_, ?_⟩; · omega)
        | omega
        | apply_assumption -exfalso -symm
        | (exfalso; omega)))
    refine Again.mk ⟨(i + 1, (R.set i y).set (l.length - 1 - i) x), show 2 * (i + 1) ≤ l.length + 1 by omega, hst⟩ (Sub.lit (by simp [List.map_set, dSym, hw1, hmr]; omega)) (by simp; omega)
  · have hend := revAt_end h2 (by omega)
    have hlt : ¬ (i : Int) < (l.length : Int) - 1 - i := by omega
    subst hend
    (repeat (first
        | (refine DW_seq fun K hK => ?_)
        | (refine DW_r anW5757 Try.mixed (by kernel_rfl) ?_; simp [hnt, Try.ntmps57, Try.results57, anW5757, hlt, hmx]; try simp (disch := omega) only [wrap64_in])
        | (refine DW_block ?_)
        | (focus (refine DW_if ?_ ?_ ?_; (· (simp [hnt, Try.ntmps57, Try.results57, anW5757, hlt, hmx]; done)); (try (rotate_left; (· (intro hc; (try simp [hnt, Try.ntmps57, Try.results57, anW5757, hlt, hmx] at hc); done))))))
        | (refine DW_ret ?_; simp [hnt, Try.ntmps57, Try.results57, anW5757, hlt, hmx])
        | (refine DW_exit ?_; simp [hnt, Try.ntmps57, Try.results57, anW5757, hlt, hmx])
        | (refine DW_skip ?_; simp [hnt, Try.ntmps57, Try.results57, anW5757, hlt, hmx])
        | (intro hc; (try simp [hnt, Try.ntmps57, Try.results57, anW5757, hlt, hmx] at hc); done)
        | (intro hc; (try simp [hnt, Try.ntmps57, Try.results57, anW5757, hlt, hmx] at hc); (first | (exfalso; omega) | skip))
        | (refine ⟨?_, ?_⟩; · omega)
        | omega
        | apply_assumption -exfalso -symm
        | (exfalso; omega)))
end Go.Proofs.Ytihkcegelghcpaa
