/- Parts of a proof, laid together: WB7, WB8, WBp, WB9, WB10. -/
import Derived.Test.YtihkcegelghcpaaqCw7
import Derived.Test.YtihkcegelghcpaaqCw8
section
/- graphs: among, form -/

set_option linter.unusedSimpArgs false
set_option linter.unusedVariables false
namespace Go.Proofs.Ytihkcegelghcpaa
open Go Go.Dm
attribute [local irreducible] DW callP callS
set_option maxRecDepth 100000

theorem risB_pair {l : List ByteArray} (h : risB sLess l = true) : l.Pairwise fun a b => sLess a b = true := by
  induction l with
  | nil => exact .nil
  | cons a l ih =>
    cases l with
    | nil => exact List.pairwise_singleton _ _
    | cons b l =>
      simp only [risB, Bool.and_eq_true] at h
      have ih := ih h.2
      refine List.pairwise_cons.2 ⟨fun x hx => ?_, ih⟩
      rcases List.mem_cons.1 hx with rfl | hx
      · exact h.1
      · exact sLess_trans h.1 ((List.pairwise_cons.1 ih).1 x hx)
theorem pair_at {l : List ByteArray} (h : l.Pairwise fun a b => sLess a b = true) {i j : Nat} {x y : ByteArray} (hij : i < j) (hx : l[i]? = some x) (hy : l[j]? = some y) : sLess x y = true := by
  obtain ⟨h1, rfl⟩ := List.getElem?_eq_some_iff.1 hx
  obtain ⟨h2, rfl⟩ := List.getElem?_eq_some_iff.1 hy
  exact (List.pairwise_iff_getElem.1 h) i j h1 h2 hij

def anWB7144 : Ann := ⟨[], []⟩
theorem among_pure (l : List ByteArray) (s : ByteArray) (hs : l.Pairwise fun a b => sLess a b = true) : DPure Try.prog 144 [dStrs l, .str s] (.bool (decide (s ∈ l))) := by
  refine DPure_introF [] (fn := Try.f144) Try.func144 rfl Try.call144 (by simp [Try.ntmps144]) (by simp [mx]) ?_
  intro hwf B hnt
  have hlen : l.length * 16 ≤ 150000000000000 := by have := hwf.1; simp only [wfD, List.length_map] at this; exact this.1
  clear hwf
  simp only [argS]
  obtain ⟨R, hR⟩ : ∃ R, R = decide (s ∈ l) := ⟨_, rfl⟩
  rw [← hR]
  (repeat (first | (refine DW_seq fun K hK => ?_) | (refine DW_r anWB7144 Try.mixed (by kernel_rfl) ?_; simp [hnt, Try.ntmps144, Try.results144, anWB7144]; try simp (disch := omega) only [wrap64_in]) | (refine DW_block ?_) | (focus (refine DW_if ?_ ?_ ?_; (· (simp [hnt, Try.ntmps144, Try.results144, anWB7144]; done)); (try (rotate_left; (· (intro hc; (try simp [hnt, Try.ntmps144, Try.results144, anWB7144] at hc); done)))))) | (refine DW_ret ?_; simp [hnt, Try.ntmps144, Try.results144, anWB7144]) | (refine DW_exit ?_; simp [hnt, Try.ntmps144, Try.results144, anWB7144]) | (refine DW_skip ?_; simp [hnt, Try.ntmps144, Try.results144, anWB7144]) | (intro hc; (try simp [hnt, Try.ntmps144, Try.results144, anWB7144] at hc); done) | (intro hc; (try simp [hnt, Try.ntmps144, Try.results144, anWB7144] at hc); (first | (exfalso; omega) | skip)) | (refine ⟨?_, ?_⟩; · omega) | omega | apply_assumption -exfalso -symm | (exfalso; omega)))
  refine DW_loop (X := {x : Nat × Nat // x.1 ≤ x.2 ∧ x.2 ≤ l.length ∧ (∀ i y, i < x.1 → l[i]? = some y → sLess y s = true) ∧ (∀ i y, x.2 ≤ i → l[i]? = some y → sLess y s = false)})
    (fun x => ⟨[(0, dStrs l), (1, .str s), (5, .int .i64 x.1.1), (6, .int .i64 x.1.2)], []⟩) (fun x => x.1.2 - x.1.1) ⟨(0, l.length), by simp, by simp, by simp, fun i y hi hy => by
      have := (List.getElem?_eq_some_iff.1 hy).1
      simp only at hi; omega⟩ (Sub.lit (by simp)) ?_
  rintro ⟨⟨lo, hi⟩, h1, h2, h3, h4⟩
  simp only at h1 h2 h3 h4 ⊢
  by_cases hlt : lo < hi
  · obtain ⟨m, hm⟩ : ∃ m, m = (lo + hi) / 2 := ⟨_, rfl⟩
    have hml : m < l.length := by omega
    obtain ⟨y, hy, hy', _⟩ := at_lt' hml
    have w1 : IntKind.i64.wrap ((lo : Int) + hi) = (lo : Int) + hi := wrap64_in (by omega) (by omega)
    have w2 : ((lo : Int) + hi).tdiv 2 = (m : Int) := by
      rw [show (lo : Int) + hi = ((lo + hi : Nat) : Int) by omega, Int.tdiv_eq_ediv_of_nonneg (by omega), hm]
      omega
    have w3 : IntKind.i64.wrap (m : Int) = m := wrap64_in (by omega) (by omega)
    have hlt' : (lo : Int) < hi := by omega
    cases hcs : sLess y s
    · have hc2 : Op.bytesLess y.data.toList s.data.toList = false := hcs
      (repeat (first | (refine DW_seq fun K hK => ?_) | (refine DW_r anWB7144 Try.mixed (by kernel_rfl) ?_; simp [hnt, Try.ntmps144, Try.results144, anWB7144, dStr, hlt, hlt', w1, w2, w3, hml, hy, hy', hc2]; try simp (disch := omega) only [wrap64_in]) | (refine DW_block ?_) | (focus (refine DW_if ?_ ?_ ?_; (· (simp [hnt, Try.ntmps144, Try.results144, anWB7144, dStr, hlt, hlt', w1, w2, w3, hml, hy, hy', hc2]; done)); (try (rotate_left; (· (intro hc; (try simp [hnt, Try.ntmps144, Try.results144, anWB7144, dStr, hlt, hlt', w1, w2, w3, hml, hy, hy', hc2] at hc); done)))))) | (refine DW_ret ?_; simp [hnt, Try.ntmps144, Try.results144, anWB7144, dStr, hlt, hlt', w1, w2, w3, hml, hy, hy', hc2]) | (refine DW_exit ?_; simp [hnt, Try.ntmps144, Try.results144, anWB7144, dStr, hlt, hlt', w1, w2, w3, hml, hy, hy', hc2]) | (refine DW_skip ?_; simp [hnt, Try.ntmps144, Try.results144, anWB7144, dStr, hlt, hlt', w1, w2, w3, hml, hy, hy', hc2]) | (intro hc; (try simp [hnt, Try.ntmps144, Try.results144, anWB7144, dStr, hlt, hlt', w1, w2, w3, hml, hy, hy', hc2] at hc); done) | (intro hc; (try simp [hnt, Try.ntmps144, Try.results144, anWB7144, dStr, hlt, hlt', w1, w2, w3, hml, hy, hy', hc2] at hc); (first | (exfalso; omega) | skip)) | (refine ⟨?_, ?_⟩; · omega) | omega | apply_assumption -exfalso -symm | (exfalso; omega)))
      refine Again.mk ⟨(lo, m), show lo ≤ m ∧ m ≤ l.length ∧ (∀ i y, i < lo → l[i]? = some y → sLess y s = true) ∧ (∀ i y, m ≤ i → l[i]? = some y → sLess y s = false) from ⟨by omega, by omega, h3, fun i z hi' hz => ?_⟩⟩ (Sub.lit (by simp)) (by simp; omega)
      · rcases Nat.lt_or_eq_of_le hi' with h | h
        · have := pair_at hs h hy hz
          cases hzs : sLess z s
          · rfl
          · have := sLess_trans this hzs; rw [hcs] at this; simp at this
        · subst h; rw [hy] at hz; simp only [Option.some.injEq] at hz; subst hz; exact hcs
      (repeat (first | (refine DW_seq fun K hK => ?_) | (refine DW_r anWB7144 Try.mixed (by kernel_rfl) ?_; simp [hnt, Try.ntmps144, Try.results144, anWB7144]; try simp (disch := omega) only [wrap64_in]) | (refine DW_block ?_) | (focus (refine DW_if ?_ ?_ ?_; (· (simp [hnt, Try.ntmps144, Try.results144, anWB7144]; done)); (try (rotate_left; (· (intro hc; (try simp [hnt, Try.ntmps144, Try.results144, anWB7144] at hc); done)))))) | (refine DW_ret ?_; simp [hnt, Try.ntmps144, Try.results144, anWB7144]) | (refine DW_exit ?_; simp [hnt, Try.ntmps144, Try.results144, anWB7144]) | (refine DW_skip ?_; simp [hnt, Try.ntmps144, Try.results144, anWB7144]) | (intro hc; (try simp [hnt, Try.ntmps144, Try.results144, anWB7144] at hc); done) | (intro hc; (try simp [hnt, Try.ntmps144, Try.results144, anWB7144] at hc); (first | (exfalso; omega) | skip)) | (refine ⟨?_, ?_⟩; · omega) | omega | apply_assumption -exfalso -symm | (exfalso; omega)))
    · have hc2 : Op.bytesLess y.data.toList s.data.toList = true := hcs
      (repeat (first | (refine DW_seq fun K hK => ?_) | (refine DW_r anWB7144 Try.mixed (by kernel_rfl) ?_; simp [hnt, Try.ntmps144, Try.results144, anWB7144, dStr, hlt, hlt', w1, w2, w3, hml, hy, hy', hc2]; try simp (disch := omega) only [wrap64_in]) | (refine DW_block ?_) | (focus (refine DW_if ?_ ?_ ?_; (· (simp [hnt, Try.ntmps144, Try.results144, anWB7144, dStr, hlt, hlt', w1, w2, w3, hml, hy, hy', hc2]; done)); (try (rotate_left; (· (intro hc; (try simp [hnt, Try.ntmps144, Try.results144, anWB7144, dStr, hlt, hlt', w1, w2, w3, hml, hy, hy', hc2] at hc); done)))))) | (refine DW_ret ?_; simp [hnt, Try.ntmps144, Try.results144, anWB7144, dStr, hlt, hlt', w1, w2, w3, hml, hy, hy', hc2]) | (refine DW_exit ?_; simp [hnt, Try.ntmps144, Try.results144, anWB7144, dStr, hlt, hlt', w1, w2, w3, hml, hy, hy', hc2]) | (refine DW_skip ?_; simp [hnt, Try.ntmps144, Try.results144, anWB7144, dStr, hlt, hlt', w1, w2, w3, hml, hy, hy', hc2]) | (intro hc; (try simp [hnt, Try.ntmps144, Try.results144, anWB7144, dStr, hlt, hlt', w1, w2, w3, hml, hy, hy', hc2] at hc); done) | (intro hc; (try simp [hnt, Try.ntmps144, Try.results144, anWB7144, dStr, hlt, hlt', w1, w2, w3, hml, hy, hy', hc2] at hc); (first | (exfalso; omega) | skip)) | (refine ⟨?_, ?_⟩; · omega) | omega | apply_assumption -exfalso -symm | (exfalso; omega)))
      refine Again.mk ⟨(m + 1, hi), show m + 1 ≤ hi ∧ hi ≤ l.length ∧ (∀ i y, i < m + 1 → l[i]? = some y → sLess y s = true) ∧ (∀ i y, hi ≤ i → l[i]? = some y → sLess y s = false) from ⟨by omega, h2, fun i z hi' hz => ?_, h4⟩⟩ (Sub.lit (by simp)) (by simp; omega)
      · rcases Nat.lt_or_eq_of_le (Nat.le_of_lt_succ hi') with h | h
        · exact sLess_trans (pair_at hs h hz hy) hcs
        · subst h; rw [hy] at hz; simp only [Option.some.injEq] at hz; subst hz; exact hcs
      (repeat (first | (refine DW_seq fun K hK => ?_) | (refine DW_r anWB7144 Try.mixed (by kernel_rfl) ?_; simp [hnt, Try.ntmps144, Try.results144, anWB7144]; try simp (disch := omega) only [wrap64_in]) | (refine DW_block ?_) | (focus (refine DW_if ?_ ?_ ?_; (· (simp [hnt, Try.ntmps144, Try.results144, anWB7144]; done)); (try (rotate_left; (· (intro hc; (try simp [hnt, Try.ntmps144, Try.results144, anWB7144] at hc); done)))))) | (refine DW_ret ?_; simp [hnt, Try.ntmps144, Try.results144, anWB7144]) | (refine DW_exit ?_; simp [hnt, Try.ntmps144, Try.results144, anWB7144]) | (refine DW_skip ?_; simp [hnt, Try.ntmps144, Try.results144, anWB7144]) | (intro hc; (try simp [hnt, Try.ntmps144, Try.results144, anWB7144] at hc); done) | (intro hc; (try simp [hnt, Try.ntmps144, Try.results144, anWB7144] at hc); (first | (exfalso; omega) | skip)) | (refine ⟨?_, ?_⟩; · omega) | omega | apply_assumption -exfalso -symm | (exfalso; omega)))
  · have hhi : hi = lo := by omega
    subst hhi
    have hnl : ¬ (hi : Int) < hi := by omega
    by_cases hin : hi < l.length
    · obtain ⟨y, hy, hy', hym⟩ := at_lt' hin
      have hd : decide (s ∈ l) = (y == s) := by
        by_cases hys : y = s
        · subst hys; simp [hym]
        · have : ¬ s ∈ l := by
            intro hsm
            obtain ⟨j, hj, hjs⟩ := List.getElem_of_mem hsm
            have hj' : l[j]? = some s := by rw [List.getElem?_eq_getElem hj, hjs]
            rcases Nat.lt_trichotomy j hi with h | h | h
            · have := h3 j s h hj'; rw [sLess_irr] at this; simp at this
            · subst h; rw [hy] at hj'; simp at hj'; exact hys hj'
            · have := pair_at hs h hy hj'
              have := h4 hi y (Nat.le_refl _) hy
              simp_all
          simp [this, hys]
      rw [hd] at hR
      subst hR
      have hil : (hi : Int) < l.length := by omega
      (repeat (first | (refine DW_seq fun K hK => ?_) | (refine DW_r anWB7144 Try.mixed (by kernel_rfl) ?_; simp [hnt, Try.ntmps144, Try.results144, anWB7144, dStr, hnl, hin, hil, hy, hy']; try simp (disch := omega) only [wrap64_in]) | (refine DW_block ?_) | (focus (refine DW_if ?_ ?_ ?_; (· (simp [hnt, Try.ntmps144, Try.results144, anWB7144, dStr, hnl, hin, hil, hy, hy']; done)); (try (rotate_left; (· (intro hc; (try simp [hnt, Try.ntmps144, Try.results144, anWB7144, dStr, hnl, hin, hil, hy, hy'] at hc); done)))))) | (refine DW_ret ?_; simp [hnt, Try.ntmps144, Try.results144, anWB7144, dStr, hnl, hin, hil, hy, hy']) | (refine DW_exit ?_; simp [hnt, Try.ntmps144, Try.results144, anWB7144, dStr, hnl, hin, hil, hy, hy']) | (refine DW_skip ?_; simp [hnt, Try.ntmps144, Try.results144, anWB7144, dStr, hnl, hin, hil, hy, hy']) | (intro hc; (try simp [hnt, Try.ntmps144, Try.results144, anWB7144, dStr, hnl, hin, hil, hy, hy'] at hc); done) | (intro hc; (try simp [hnt, Try.ntmps144, Try.results144, anWB7144, dStr, hnl, hin, hil, hy, hy'] at hc); (first | (exfalso; omega) | skip)) | (refine ⟨?_, ?_⟩; · omega) | omega | apply_assumption -exfalso -symm | (exfalso; omega)))
    · have hnot : decide (s ∈ l) = false := by
        simp only [decide_eq_false_iff_not]
        intro hsm
        obtain ⟨j, hj, hjs⟩ := List.getElem_of_mem hsm
        have := h3 j s (by omega) (by rw [List.getElem?_eq_getElem hj, hjs])
        rw [sLess_irr] at this; simp at this
      rw [hnot] at hR
      subst hR
      have hil : ¬ (hi : Int) < l.length := by omega
      (repeat (first | (refine DW_seq fun K hK => ?_) | (refine DW_r anWB7144 Try.mixed (by kernel_rfl) ?_; simp [hnt, Try.ntmps144, Try.results144, anWB7144, dStr, hnl, hin, hil]; try simp (disch := omega) only [wrap64_in]) | (refine DW_block ?_) | (focus (refine DW_if ?_ ?_ ?_; (· (simp [hnt, Try.ntmps144, Try.results144, anWB7144, dStr, hnl, hin, hil]; done)); (try (rotate_left; (· (intro hc; (try simp [hnt, Try.ntmps144, Try.results144, anWB7144, dStr, hnl, hin, hil] at hc); done)))))) | (refine DW_ret ?_; simp [hnt, Try.ntmps144, Try.results144, anWB7144, dStr, hnl, hin, hil]) | (refine DW_exit ?_; simp [hnt, Try.ntmps144, Try.results144, anWB7144, dStr, hnl, hin, hil]) | (refine DW_skip ?_; simp [hnt, Try.ntmps144, Try.results144, anWB7144, dStr, hnl, hin, hil]) | (intro hc; (try simp [hnt, Try.ntmps144, Try.results144, anWB7144, dStr, hnl, hin, hil] at hc); done) | (intro hc; (try simp [hnt, Try.ntmps144, Try.results144, anWB7144, dStr, hnl, hin, hil] at hc); (first | (exfalso; omega) | skip)) | (refine ⟨?_, ?_⟩; · omega) | omega | apply_assumption -exfalso -symm | (exfalso; omega)))

def inG (ns : List ByteArray) (e : Edge) : Bool := decide (e.fr ∈ ns) && decide (e.to ∈ ns)
def formB (g : Edges) : Bool := risB sLess g.nodes && (risB eLess g.edges && g.edges.all (inG g.nodes))

def strsD (l : List ByteArray) : List DVal := l.map DVal.str
theorem strsD_cons (x : ByteArray) (l : List ByteArray) : strsD (x :: l) = .str x :: strsD l := rfl
theorem strsD_len (l : List ByteArray) : (strsD l).length = l.length := by simp [strsD]
theorem lookS_none : ∀ {l : List ByteArray} {s : ByteArray}, ¬ s ∈ l → lookI (strsD l) (.str s) = none
  | [], _, _ => rfl
  | x :: l, s, h => by
    have h1 : (s == x) = false := by simp; intro e; exact h (by simp [e])
    have h2 := lookS_none (l := l) (s := s) fun hm => h (List.mem_cons_of_mem _ hm)
    simp [strsD_cons, lookI, cellsK, eqCs, eqC, h1, h2]
theorem lookS_some : ∀ {l : List ByteArray} {s : ByteArray}, s ∈ l → ∃ j, lookI (strsD l) (.str s) = some j ∧ j < l.length
  | [], _, h => by simp at h
  | x :: l, s, h => by
    by_cases h1 : s = x
    · subst h1; exact ⟨0, by simp [strsD_cons, lookI, cellsK, eqCs, eqC], by simp⟩
    · obtain ⟨j, h2, h3⟩ := lookS_some (l := l) (s := s) (by simpa [h1] using h)
      have h1b : (s == x) = false := by simpa using h1
      exact ⟨j + 1, by simp [strsD_cons, lookI, cellsK, eqCs, eqC, h1b, h2], by simp; omega⟩
theorem keyStrs (l : List ByteArray) : (strsD l).all (keyOK Try.prog 9) = true := by
  induction l with
  | nil => rfl
  | cons p l ih => rw [strsD_cons, List.all_cons, ih]; simp
@[simp] theorem mxL_strs (l : List ByteArray) : mxL (strsD l) = 0 := by
  induction l with
  | nil => rfl
  | cons a l ih => rw [strsD_cons]; simp [mxL, mx, ih]
def oneUp (n : Nat) : List DVal := (List.range n).map fun i : Nat => DVal.int .i64 ((i : Int) + 1)
@[simp] theorem mxL_oneUp (n : Nat) : mxL (oneUp n) = 0 := by
  unfold oneUp
  induction List.range n with
  | nil => rfl
  | cons a l ih => simp [mxL, mx, ih]
theorem oneUp_succ (n : Nat) : oneUp (n + 1) = oneUp n ++ [.int .i64 ((n : Int) + 1)] := by simp [oneUp, List.range_succ]
theorem oneUp_at {n j : Nat} (h : j < n) : (oneUp n)[j]? = some (.int .i64 ((j : Int) + 1)) := by simp [oneUp, h]

def anWB7101 : Ann := ⟨[], [⟨11, [7], [], []⟩]⟩
set_option maxHeartbeats 2000000 in
theorem form101_pure (g : Edges) : DPure Try.prog 101 [.agg (dGr g)] (.bool (formB g)) := by
  refine DPure_introF [] (fn := Try.f101) Try.func101 rfl Try.call101 (by simp [Try.ntmps101]) (by simp [mx]) ?_
  intro hwf B hnt
  obtain ⟨ns, es⟩ := g
  have hw1 : ns.length < 9223372036854775807 := len_strs (by have := hwf.1; simp only [wfD, dGr, wfL] at this; exact this.1)
  have hw2 : es.length < 9223372036854775807 := len_eds (by have := hwf.1; simp only [wfD, dGr, wfL] at this; exact this.2.1)
  clear hwf
  simp only [argS]
  obtain ⟨R, hR⟩ : ∃ R, R = formB ⟨ns, es⟩ := ⟨_, rfl⟩
  rw [← hR]
  unfold formB at hR
  simp only at hR
  have h1 := rising_str_pure ns
  have h2 := rising_edge_pure es
  cases hr1 : risB sLess ns
  · rw [hr1] at h1 hR
    simp only [Bool.false_and] at hR
    subst hR
    (repeat (first | (refine DW_seq fun K hK => ?_) | (refine DW_r anWB7101 Try.mixed (by kernel_rfl) ?_; simp [hnt, Try.ntmps101, Try.results101, anWB7101, dGr]; try simp (disch := omega) only [wrap64_in]) | (refine DW_block ?_) | (focus (refine DW_if ?_ ?_ ?_; (· (simp [hnt, Try.ntmps101, Try.results101, anWB7101, dGr]; done)); (try (rotate_left; (· (intro hc; (try simp [hnt, Try.ntmps101, Try.results101, anWB7101, dGr] at hc); done)))))) | (refine DW_ret ?_; simp [hnt, Try.ntmps101, Try.results101, anWB7101, dGr]) | (refine DW_exit ?_; simp [hnt, Try.ntmps101, Try.results101, anWB7101, dGr]) | (refine DW_skip ?_; simp [hnt, Try.ntmps101, Try.results101, anWB7101, dGr]) | (intro hc; (try simp [hnt, Try.ntmps101, Try.results101, anWB7101, dGr] at hc); done) | (intro hc; (try simp [hnt, Try.ntmps101, Try.results101, anWB7101, dGr] at hc); (first | (exfalso; omega) | skip)) | (refine callP_mk (h1) ?_; try simp [hnt, Try.ntmps101, Try.results101, anWB7101, dGr]) | (refine callP_wk (h1) ?_ ?_; (· (simp; done)); try simp [hnt, Try.ntmps101, Try.results101, anWB7101, dGr]) | (refine callP_mk (h2) ?_; try simp [hnt, Try.ntmps101, Try.results101, anWB7101, dGr]) | (refine callP_wk (h2) ?_ ?_; (· (simp; done)); try simp [hnt, Try.ntmps101, Try.results101, anWB7101, dGr]) | (refine ⟨?_, ?_⟩; · omega) | omega | apply_assumption -exfalso -symm | (exfalso; omega)))
  rw [hr1] at h1 hR
  simp only [Bool.true_and] at hR
  cases hr2 : risB eLess es
  · rw [hr2] at h2 hR
    simp only [Bool.false_and] at hR
    subst hR
    (repeat (first | (refine DW_seq fun K hK => ?_) | (refine DW_r anWB7101 Try.mixed (by kernel_rfl) ?_; simp [hnt, Try.ntmps101, Try.results101, anWB7101, dGr]; try simp (disch := omega) only [wrap64_in]) | (refine DW_block ?_) | (focus (refine DW_if ?_ ?_ ?_; (· (simp [hnt, Try.ntmps101, Try.results101, anWB7101, dGr]; done)); (try (rotate_left; (· (intro hc; (try simp [hnt, Try.ntmps101, Try.results101, anWB7101, dGr] at hc); done)))))) | (refine DW_ret ?_; simp [hnt, Try.ntmps101, Try.results101, anWB7101, dGr]) | (refine DW_exit ?_; simp [hnt, Try.ntmps101, Try.results101, anWB7101, dGr]) | (refine DW_skip ?_; simp [hnt, Try.ntmps101, Try.results101, anWB7101, dGr]) | (intro hc; (try simp [hnt, Try.ntmps101, Try.results101, anWB7101, dGr] at hc); done) | (intro hc; (try simp [hnt, Try.ntmps101, Try.results101, anWB7101, dGr] at hc); (first | (exfalso; omega) | skip)) | (refine callP_mk (h1) ?_; try simp [hnt, Try.ntmps101, Try.results101, anWB7101, dGr]) | (refine callP_wk (h1) ?_ ?_; (· (simp; done)); try simp [hnt, Try.ntmps101, Try.results101, anWB7101, dGr]) | (refine callP_mk (h2) ?_; try simp [hnt, Try.ntmps101, Try.results101, anWB7101, dGr]) | (refine callP_wk (h2) ?_ ?_; (· (simp; done)); try simp [hnt, Try.ntmps101, Try.results101, anWB7101, dGr]) | (refine ⟨?_, ?_⟩; · omega) | omega | apply_assumption -exfalso -symm | (exfalso; omega)))
  rw [hr2] at h2 hR
  simp only [Bool.true_and] at hR
  have hp := risB_pair hr1
  (repeat (first | (refine DW_seq fun K hK => ?_) | (refine DW_r anWB7101 Try.mixed (by kernel_rfl) ?_; simp [hnt, Try.ntmps101, Try.results101, anWB7101, dGr]; try simp (disch := omega) only [wrap64_in]) | (refine DW_block ?_) | (focus (refine DW_if ?_ ?_ ?_; (· (simp [hnt, Try.ntmps101, Try.results101, anWB7101, dGr]; done)); (try (rotate_left; (· (intro hc; (try simp [hnt, Try.ntmps101, Try.results101, anWB7101, dGr] at hc); done)))))) | (refine DW_ret ?_; simp [hnt, Try.ntmps101, Try.results101, anWB7101, dGr]) | (refine DW_exit ?_; simp [hnt, Try.ntmps101, Try.results101, anWB7101, dGr]) | (refine DW_skip ?_; simp [hnt, Try.ntmps101, Try.results101, anWB7101, dGr]) | (intro hc; (try simp [hnt, Try.ntmps101, Try.results101, anWB7101, dGr] at hc); done) | (intro hc; (try simp [hnt, Try.ntmps101, Try.results101, anWB7101, dGr] at hc); (first | (exfalso; omega) | skip)) | (refine callP_mk (h1) ?_; try simp [hnt, Try.ntmps101, Try.results101, anWB7101, dGr]) | (refine callP_wk (h1) ?_ ?_; (· (simp; done)); try simp [hnt, Try.ntmps101, Try.results101, anWB7101, dGr]) | (refine callP_mk (h2) ?_; try simp [hnt, Try.ntmps101, Try.results101, anWB7101, dGr]) | (refine callP_wk (h2) ?_ ?_; (· (simp; done)); try simp [hnt, Try.ntmps101, Try.results101, anWB7101, dGr]) | (refine ⟨?_, ?_⟩; · omega) | omega | apply_assumption -exfalso -symm | (exfalso; omega)))
  refine DW_loop (X := {k : Nat // k ≤ ns.length}) (fun k => ⟨[(1, .ref [dStrs ns, dEds es]), (3, .omp 18 1), (20, dStrs ns), (21, .int .i64 ns.length), (22, .int .i64 k.1)], [⟨18, 1, .map (strsD (ns.take k.1)) (oneUp k.1)⟩]⟩) (fun k => ns.length - k.1) ⟨0, by omega⟩ (Sub.lit (by simp [oneUp, strsD])) ?_
  rintro ⟨k, hk⟩
  by_cases hlt : k < ns.length
  · obtain ⟨x, hx, hx', _⟩ := at_lt' hlt
    have hnew : lookI (strsD (ns.take k)) (.str x) = none := by
      apply lookS_none
      intro hm
      obtain ⟨i, hi, hix⟩ := List.getElem_of_mem hm
      rw [List.length_take] at hi
      have h3 : ns[i]? = some x := by
        rw [← hix, List.getElem_take, List.getElem?_eq_getElem]
      have := pair_at hp (by omega) h3 hx
      rw [sLess_irr] at this; simp at this
    have htk : strsD (ns.take (k + 1)) = strsD (ns.take k) ++ [.str x] := by
      unfold strsD; rw [List.take_succ_eq_append_getElem hlt, hx', List.map_append]; rfl
    have hup := oneUp_succ k
    have hks := keyStrs (ns.take k)
    obtain ⟨T, hT⟩ : ∃ T, T = strsD (ns.take k) := ⟨_, rfl⟩
    have hTm : mxL T = 0 := by rw [hT]; simp
    rw [← hT] at hnew htk hks ⊢
    (repeat (first | (refine DW_seq fun K hK => ?_) | (refine DW_r anWB7101 Try.mixed (by kernel_rfl) ?_; simp [hnt, Try.ntmps101, Try.results101, anWB7101, dStr, hlt, hx, hx', hnew, hks, hTm]; try simp (disch := omega) only [wrap64_in]) | (refine DW_block ?_) | (focus (refine DW_if ?_ ?_ ?_; (· (simp [hnt, Try.ntmps101, Try.results101, anWB7101, dStr, hlt, hx, hx', hnew, hks, hTm]; done)); (try (rotate_left; (· (intro hc; (try simp [hnt, Try.ntmps101, Try.results101, anWB7101, dStr, hlt, hx, hx', hnew, hks, hTm] at hc); done)))))) | (refine DW_ret ?_; simp [hnt, Try.ntmps101, Try.results101, anWB7101, dStr, hlt, hx, hx', hnew, hks, hTm]) | (refine DW_exit ?_; simp [hnt, Try.ntmps101, Try.results101, anWB7101, dStr, hlt, hx, hx', hnew, hks, hTm]) | (refine DW_skip ?_; simp [hnt, Try.ntmps101, Try.results101, anWB7101, dStr, hlt, hx, hx', hnew, hks, hTm]) | (intro hc; (try simp [hnt, Try.ntmps101, Try.results101, anWB7101, dStr, hlt, hx, hx', hnew, hks, hTm] at hc); done) | (intro hc; (try simp [hnt, Try.ntmps101, Try.results101, anWB7101, dStr, hlt, hx, hx', hnew, hks, hTm] at hc); (first | (exfalso; omega) | skip)) | (refine ⟨?_, ?_⟩; · omega) | omega | apply_assumption -exfalso -symm | (exfalso; omega)))
    exact Again.mk ⟨k + 1, by omega⟩ (Sub.lit (by simp only [htk, hup]; simp [hTm])) (by simp; omega)
    (repeat (first | (refine DW_seq fun K hK => ?_) | (refine DW_r anWB7101 Try.mixed (by kernel_rfl) ?_; simp [hnt, Try.ntmps101, Try.results101, anWB7101]; try simp (disch := omega) only [wrap64_in]) | (refine DW_block ?_) | (focus (refine DW_if ?_ ?_ ?_; (· (simp [hnt, Try.ntmps101, Try.results101, anWB7101]; done)); (try (rotate_left; (· (intro hc; (try simp [hnt, Try.ntmps101, Try.results101, anWB7101] at hc); done)))))) | (refine DW_ret ?_; simp [hnt, Try.ntmps101, Try.results101, anWB7101]) | (refine DW_exit ?_; simp [hnt, Try.ntmps101, Try.results101, anWB7101]) | (refine DW_skip ?_; simp [hnt, Try.ntmps101, Try.results101, anWB7101]) | (intro hc; (try simp [hnt, Try.ntmps101, Try.results101, anWB7101] at hc); done) | (intro hc; (try simp [hnt, Try.ntmps101, Try.results101, anWB7101] at hc); (first | (exfalso; omega) | skip)) | (refine ⟨?_, ?_⟩; · omega) | omega | apply_assumption -exfalso -symm | (exfalso; omega)))
  · have hkk : k = ns.length := by omega
    subst hkk
    rw [List.take_length]
    have hks := keyStrs ns
    (repeat (first | (refine DW_seq fun K hK => ?_) | (refine DW_r anWB7101 Try.mixed (by kernel_rfl) ?_; simp [hnt, Try.ntmps101, Try.results101, anWB7101]; try simp (disch := omega) only [wrap64_in]) | (refine DW_block ?_) | (focus (refine DW_if ?_ ?_ ?_; (· (simp [hnt, Try.ntmps101, Try.results101, anWB7101]; done)); (try (rotate_left; (· (intro hc; (try simp [hnt, Try.ntmps101, Try.results101, anWB7101] at hc); done)))))) | (refine DW_ret ?_; simp [hnt, Try.ntmps101, Try.results101, anWB7101]) | (refine DW_exit ?_; simp [hnt, Try.ntmps101, Try.results101, anWB7101]) | (refine DW_skip ?_; simp [hnt, Try.ntmps101, Try.results101, anWB7101]) | (intro hc; (try simp [hnt, Try.ntmps101, Try.results101, anWB7101] at hc); done) | (intro hc; (try simp [hnt, Try.ntmps101, Try.results101, anWB7101] at hc); (first | (exfalso; omega) | skip)) | (refine ⟨?_, ?_⟩; · omega) | omega | apply_assumption -exfalso -symm | (exfalso; omega)))
    refine DW_loop (X := {k : Nat // k ≤ es.length ∧ R = (es.drop k).all (inG ns)}) (fun k => ⟨[(3, .omp 18 1), (33, dEds es), (34, .int .i64 es.length), (35, .int .i64 k.1)], [⟨18, 1, .map (strsD ns) (oneUp ns.length)⟩]⟩) (fun k => es.length - k.1) ⟨0, by simp [hR]⟩ (Sub.lit (by simp)) ?_
    rintro ⟨k, hk, hw⟩
    clear hR
    by_cases hlt : k < es.length
    · obtain ⟨x, hx, hx', _⟩ := at_lt' hlt
      rw [all_drop hx] at hw
      by_cases c1 : x.fr ∈ ns
      · obtain ⟨j1, l1, l2⟩ := lookS_some c1
        have v1 := oneUp_at l2
        have z1 : ((j1 : Int) + 1 == 0) = false := by simp; omega
        by_cases c2 : x.to ∈ ns
        · obtain ⟨j2, l3, l4⟩ := lookS_some c2
          have v2 := oneUp_at l4
          have z2 : ((j2 : Int) + 1 == 0) = false := by simp; omega
          have hi : inG ns x = true := by simp [inG, c1, c2]
          rw [hi] at hw
          simp only [Bool.true_and] at hw
          (repeat (first | (refine DW_seq fun K hK => ?_) | (refine DW_r anWB7101 Try.mixed (by kernel_rfl) ?_; simp [hnt, Try.ntmps101, Try.results101, anWB7101, dEdge, hlt, hx, hx', hks, l1, v1, z1, l3, v2, z2]; try simp (disch := omega) only [wrap64_in]) | (refine DW_block ?_) | (focus (refine DW_if ?_ ?_ ?_; (· (simp [hnt, Try.ntmps101, Try.results101, anWB7101, dEdge, hlt, hx, hx', hks, l1, v1, z1, l3, v2, z2]; done)); (try (rotate_left; (· (intro hc; (try simp [hnt, Try.ntmps101, Try.results101, anWB7101, dEdge, hlt, hx, hx', hks, l1, v1, z1, l3, v2, z2] at hc); done)))))) | (refine DW_ret ?_; simp [hnt, Try.ntmps101, Try.results101, anWB7101, dEdge, hlt, hx, hx', hks, l1, v1, z1, l3, v2, z2]) | (refine DW_exit ?_; simp [hnt, Try.ntmps101, Try.results101, anWB7101, dEdge, hlt, hx, hx', hks, l1, v1, z1, l3, v2, z2]) | (refine DW_skip ?_; simp [hnt, Try.ntmps101, Try.results101, anWB7101, dEdge, hlt, hx, hx', hks, l1, v1, z1, l3, v2, z2]) | (intro hc; (try simp [hnt, Try.ntmps101, Try.results101, anWB7101, dEdge, hlt, hx, hx', hks, l1, v1, z1, l3, v2, z2] at hc); done) | (intro hc; (try simp [hnt, Try.ntmps101, Try.results101, anWB7101, dEdge, hlt, hx, hx', hks, l1, v1, z1, l3, v2, z2] at hc); (first | (exfalso; omega) | skip)) | (refine ⟨?_, ?_⟩; · omega) | omega | apply_assumption -exfalso -symm | (exfalso; omega)))
          exact Again.mk ⟨k + 1, by omega, hw⟩ (Sub.lit (by simp)) (by simp; omega)
          (repeat (first | (refine DW_seq fun K hK => ?_) | (refine DW_r anWB7101 Try.mixed (by kernel_rfl) ?_; simp [hnt, Try.ntmps101, Try.results101, anWB7101]; try simp (disch := omega) only [wrap64_in]) | (refine DW_block ?_) | (focus (refine DW_if ?_ ?_ ?_; (· (simp [hnt, Try.ntmps101, Try.results101, anWB7101]; done)); (try (rotate_left; (· (intro hc; (try simp [hnt, Try.ntmps101, Try.results101, anWB7101] at hc); done)))))) | (refine DW_ret ?_; simp [hnt, Try.ntmps101, Try.results101, anWB7101]) | (refine DW_exit ?_; simp [hnt, Try.ntmps101, Try.results101, anWB7101]) | (refine DW_skip ?_; simp [hnt, Try.ntmps101, Try.results101, anWB7101]) | (intro hc; (try simp [hnt, Try.ntmps101, Try.results101, anWB7101] at hc); done) | (intro hc; (try simp [hnt, Try.ntmps101, Try.results101, anWB7101] at hc); (first | (exfalso; omega) | skip)) | (refine ⟨?_, ?_⟩; · omega) | omega | apply_assumption -exfalso -symm | (exfalso; omega)))
        · have l3 := lookS_none c2
          have hi : inG ns x = false := by simp [inG, c2]
          rw [hi] at hw
          simp only [Bool.false_and] at hw
          subst hw
          (repeat (first | (refine DW_seq fun K hK => ?_) | (refine DW_r anWB7101 Try.mixed (by kernel_rfl) ?_; simp [hnt, Try.ntmps101, Try.results101, anWB7101, dEdge, hlt, hx, hx', hks, l1, v1, z1, l3]; try simp (disch := omega) only [wrap64_in]) | (refine DW_block ?_) | (focus (refine DW_if ?_ ?_ ?_; (· (simp [hnt, Try.ntmps101, Try.results101, anWB7101, dEdge, hlt, hx, hx', hks, l1, v1, z1, l3]; done)); (try (rotate_left; (· (intro hc; (try simp [hnt, Try.ntmps101, Try.results101, anWB7101, dEdge, hlt, hx, hx', hks, l1, v1, z1, l3] at hc); done)))))) | (refine DW_ret ?_; simp [hnt, Try.ntmps101, Try.results101, anWB7101, dEdge, hlt, hx, hx', hks, l1, v1, z1, l3]) | (refine DW_exit ?_; simp [hnt, Try.ntmps101, Try.results101, anWB7101, dEdge, hlt, hx, hx', hks, l1, v1, z1, l3]) | (refine DW_skip ?_; simp [hnt, Try.ntmps101, Try.results101, anWB7101, dEdge, hlt, hx, hx', hks, l1, v1, z1, l3]) | (intro hc; (try simp [hnt, Try.ntmps101, Try.results101, anWB7101, dEdge, hlt, hx, hx', hks, l1, v1, z1, l3] at hc); done) | (intro hc; (try simp [hnt, Try.ntmps101, Try.results101, anWB7101, dEdge, hlt, hx, hx', hks, l1, v1, z1, l3] at hc); (first | (exfalso; omega) | skip)) | (refine ⟨?_, ?_⟩; · omega) | omega | apply_assumption -exfalso -symm | (exfalso; omega)))
      · have l1 := lookS_none c1
        have hi : inG ns x = false := by simp [inG, c1]
        rw [hi] at hw
        simp only [Bool.false_and] at hw
        subst hw
        by_cases c2 : x.to ∈ ns
        · obtain ⟨j2, l3, l4⟩ := lookS_some c2
          have v2 := oneUp_at l4
          (repeat (first | (refine DW_seq fun K hK => ?_) | (refine DW_r anWB7101 Try.mixed (by kernel_rfl) ?_; simp [hnt, Try.ntmps101, Try.results101, anWB7101, dEdge, hlt, hx, hx', hks, l1, l3, v2]; try simp (disch := omega) only [wrap64_in]) | (refine DW_block ?_) | (focus (refine DW_if ?_ ?_ ?_; (· (simp [hnt, Try.ntmps101, Try.results101, anWB7101, dEdge, hlt, hx, hx', hks, l1, l3, v2]; done)); (try (rotate_left; (· (intro hc; (try simp [hnt, Try.ntmps101, Try.results101, anWB7101, dEdge, hlt, hx, hx', hks, l1, l3, v2] at hc); done)))))) | (refine DW_ret ?_; simp [hnt, Try.ntmps101, Try.results101, anWB7101, dEdge, hlt, hx, hx', hks, l1, l3, v2]) | (refine DW_exit ?_; simp [hnt, Try.ntmps101, Try.results101, anWB7101, dEdge, hlt, hx, hx', hks, l1, l3, v2]) | (refine DW_skip ?_; simp [hnt, Try.ntmps101, Try.results101, anWB7101, dEdge, hlt, hx, hx', hks, l1, l3, v2]) | (intro hc; (try simp [hnt, Try.ntmps101, Try.results101, anWB7101, dEdge, hlt, hx, hx', hks, l1, l3, v2] at hc); done) | (intro hc; (try simp [hnt, Try.ntmps101, Try.results101, anWB7101, dEdge, hlt, hx, hx', hks, l1, l3, v2] at hc); (first | (exfalso; omega) | skip)) | (refine ⟨?_, ?_⟩; · omega) | omega | apply_assumption -exfalso -symm | (exfalso; omega)))
        · have l3 := lookS_none c2
          (repeat (first | (refine DW_seq fun K hK => ?_) | (refine DW_r anWB7101 Try.mixed (by kernel_rfl) ?_; simp [hnt, Try.ntmps101, Try.results101, anWB7101, dEdge, hlt, hx, hx', hks, l1, l3]; try simp (disch := omega) only [wrap64_in]) | (refine DW_block ?_) | (focus (refine DW_if ?_ ?_ ?_; (· (simp [hnt, Try.ntmps101, Try.results101, anWB7101, dEdge, hlt, hx, hx', hks, l1, l3]; done)); (try (rotate_left; (· (intro hc; (try simp [hnt, Try.ntmps101, Try.results101, anWB7101, dEdge, hlt, hx, hx', hks, l1, l3] at hc); done)))))) | (refine DW_ret ?_; simp [hnt, Try.ntmps101, Try.results101, anWB7101, dEdge, hlt, hx, hx', hks, l1, l3]) | (refine DW_exit ?_; simp [hnt, Try.ntmps101, Try.results101, anWB7101, dEdge, hlt, hx, hx', hks, l1, l3]) | (refine DW_skip ?_; simp [hnt, Try.ntmps101, Try.results101, anWB7101, dEdge, hlt, hx, hx', hks, l1, l3]) | (intro hc; (try simp [hnt, Try.ntmps101, Try.results101, anWB7101, dEdge, hlt, hx, hx', hks, l1, l3] at hc); done) | (intro hc; (try simp [hnt, Try.ntmps101, Try.results101, anWB7101, dEdge, hlt, hx, hx', hks, l1, l3] at hc); (first | (exfalso; omega) | skip)) | (refine ⟨?_, ?_⟩; · omega) | omega | apply_assumption -exfalso -symm | (exfalso; omega)))
    · have hkk : k = es.length := by omega
      subst hkk
      rw [List.drop_length] at hw
      simp only [List.all_nil] at hw
      subst hw
      (repeat (first | (refine DW_seq fun K hK => ?_) | (refine DW_r anWB7101 Try.mixed (by kernel_rfl) ?_; simp [hnt, Try.ntmps101, Try.results101, anWB7101]; try simp (disch := omega) only [wrap64_in]) | (refine DW_block ?_) | (focus (refine DW_if ?_ ?_ ?_; (· (simp [hnt, Try.ntmps101, Try.results101, anWB7101]; done)); (try (rotate_left; (· (intro hc; (try simp [hnt, Try.ntmps101, Try.results101, anWB7101] at hc); done)))))) | (refine DW_ret ?_; simp [hnt, Try.ntmps101, Try.results101, anWB7101]) | (refine DW_exit ?_; simp [hnt, Try.ntmps101, Try.results101, anWB7101]) | (refine DW_skip ?_; simp [hnt, Try.ntmps101, Try.results101, anWB7101]) | (intro hc; (try simp [hnt, Try.ntmps101, Try.results101, anWB7101] at hc); done) | (intro hc; (try simp [hnt, Try.ntmps101, Try.results101, anWB7101] at hc); (first | (exfalso; omega) | skip)) | (refine ⟨?_, ?_⟩; · omega) | omega | apply_assumption -exfalso -symm | (exfalso; omega)))
end Go.Proofs.Ytihkcegelghcpaa
end

section
/- graphs: form by definition -/

set_option linter.unusedSimpArgs false
set_option linter.unusedVariables false
namespace Go.Proofs.Ytihkcegelghcpaa
open Go Go.Dm
attribute [local irreducible] DW callP callS
set_option maxRecDepth 100000

theorem bl_geq (x y : ByteArray) : (!Op.bytesLess x.data.toList y.data.toList) = !sLess x y := rfl
def anWB8107 : Ann := ⟨[], []⟩
set_option maxHeartbeats 2000000 in
theorem form107_pure (g : Edges) : DPure Try.prog 107 [.agg (dGr g)] (.bool (formB g)) := by
  refine DPure_introF [] (fn := Try.f107) Try.func107 rfl Try.call107 (by simp [Try.ntmps107]) (by simp [mx]) ?_
  intro hwf B hnt
  obtain ⟨ns, es⟩ := g
  have hw1 : ns.length < 9223372036854775807 := len_strs (by have := hwf.1; simp only [wfD, dGr, wfL] at this; exact this.1)
  have hw2 : es.length < 9223372036854775807 := len_eds (by have := hwf.1; simp only [wfD, dGr, wfL] at this; exact this.2.1)
  clear hwf
  simp only [argS]
  obtain ⟨R, hR⟩ : ∃ R, R = formB ⟨ns, es⟩ := ⟨_, rfl⟩
  rw [← hR]
  unfold formB at hR
  simp only at hR
  (repeat (first | (refine DW_seq fun K hK => ?_) | (refine DW_r anWB8107 Try.mixed (by kernel_rfl) ?_; simp [hnt, Try.ntmps107, Try.results107, anWB8107, dGr]; try simp (disch := omega) only [wrap64_in]) | (refine DW_block ?_) | (focus (refine DW_if ?_ ?_ ?_; (· (simp [hnt, Try.ntmps107, Try.results107, anWB8107, dGr]; done)); (try (rotate_left; (· (intro hc; (try simp [hnt, Try.ntmps107, Try.results107, anWB8107, dGr] at hc); done)))))) | (refine DW_ret ?_; simp [hnt, Try.ntmps107, Try.results107, anWB8107, dGr]) | (refine DW_exit ?_; simp [hnt, Try.ntmps107, Try.results107, anWB8107, dGr]) | (refine DW_skip ?_; simp [hnt, Try.ntmps107, Try.results107, anWB8107, dGr]) | (intro hc; (try simp [hnt, Try.ntmps107, Try.results107, anWB8107, dGr] at hc); done) | (intro hc; (try simp [hnt, Try.ntmps107, Try.results107, anWB8107, dGr] at hc); (first | (exfalso; omega) | skip)) | (refine ⟨?_, ?_⟩; · omega) | omega | apply_assumption -exfalso -symm | (exfalso; omega)))
  refine DW_loop (X := {k : Nat // k ≤ ns.length ∧ risB sLess ns = risB sLess (ns.drop k)}) (fun k => ⟨[(1, .ref [dStrs ns, dEds es]), (3, .int .i64 (k.1 + 1))], []⟩) (fun k => ns.length - k.1) ⟨0, by simp⟩ (Sub.lit (by simp)) ?_
  rintro ⟨k, hk, hw⟩
  by_cases hlt : k + 1 < ns.length
  · obtain ⟨x, hx, hx', _⟩ := at_lt' (show k < ns.length by omega)
    obtain ⟨y, hy, hy', _⟩ := at_lt' hlt
    rw [risB_drop hx hy] at hw
    have hlt' : (k : Int) + 1 < ns.length := by omega
    have q0 : (k : Int) + 1 - 1 = k := by omega
    have q1 : ((k : Int) + 1).toNat = k + 1 := by omega
    have q2 : k < ns.length := by omega
    have q3 : (0 : Int) ≤ (k : Int) + 1 := by omega
    cases hl : sLess x y
    · have hl2 : Op.bytesLess x.data.toList y.data.toList = false := hl
      rw [hl] at hw
      simp only [Bool.false_and] at hw
      rw [hw] at hR
      simp only [Bool.false_and] at hR
      subst hR
      (repeat (first | (refine DW_seq fun K hK => ?_) | (refine DW_r anWB8107 Try.mixed (by kernel_rfl) ?_; simp [hnt, Try.ntmps107, Try.results107, anWB8107, dStr, hlt', hx, hx', hy, hy', q0, q1, q2, q3, hlt, hl2]; try simp (disch := omega) only [wrap64_in]) | (refine DW_block ?_) | (focus (refine DW_if ?_ ?_ ?_; (· (simp [hnt, Try.ntmps107, Try.results107, anWB8107, dStr, hlt', hx, hx', hy, hy', q0, q1, q2, q3, hlt, hl2]; done)); (try (rotate_left; (· (intro hc; (try simp [hnt, Try.ntmps107, Try.results107, anWB8107, dStr, hlt', hx, hx', hy, hy', q0, q1, q2, q3, hlt, hl2] at hc); done)))))) | (refine DW_ret ?_; simp [hnt, Try.ntmps107, Try.results107, anWB8107, dStr, hlt', hx, hx', hy, hy', q0, q1, q2, q3, hlt, hl2]) | (refine DW_exit ?_; simp [hnt, Try.ntmps107, Try.results107, anWB8107, dStr, hlt', hx, hx', hy, hy', q0, q1, q2, q3, hlt, hl2]) | (refine DW_skip ?_; simp [hnt, Try.ntmps107, Try.results107, anWB8107, dStr, hlt', hx, hx', hy, hy', q0, q1, q2, q3, hlt, hl2]) | (intro hc; (try simp [hnt, Try.ntmps107, Try.results107, anWB8107, dStr, hlt', hx, hx', hy, hy', q0, q1, q2, q3, hlt, hl2] at hc); done) | (intro hc; (try simp [hnt, Try.ntmps107, Try.results107, anWB8107, dStr, hlt', hx, hx', hy, hy', q0, q1, q2, q3, hlt, hl2] at hc); (first | (exfalso; omega) | skip)) | (refine ⟨?_, ?_⟩; · omega) | omega | apply_assumption -exfalso -symm | (exfalso; omega)))
      simp [hnt, Try.ntmps107, Try.results107, anWB8107, dStr, hlt', hx, hx', hy, hy', q0, q1, q2, q3, hlt, hl2]
      (repeat (first | (refine DW_seq fun K hK => ?_) | (refine DW_r anWB8107 Try.mixed (by kernel_rfl) ?_; simp [hnt, Try.ntmps107, Try.results107, anWB8107, dStr, hlt', hx, hx', hy, hy', q0, q1, q2, q3, hlt, hl2]; try simp (disch := omega) only [wrap64_in]) | (refine DW_block ?_) | (focus (refine DW_if ?_ ?_ ?_; (· (simp [hnt, Try.ntmps107, Try.results107, anWB8107, dStr, hlt', hx, hx', hy, hy', q0, q1, q2, q3, hlt, hl2]; done)); (try (rotate_left; (· (intro hc; (try simp [hnt, Try.ntmps107, Try.results107, anWB8107, dStr, hlt', hx, hx', hy, hy', q0, q1, q2, q3, hlt, hl2] at hc); done)))))) | (refine DW_ret ?_; simp [hnt, Try.ntmps107, Try.results107, anWB8107, dStr, hlt', hx, hx', hy, hy', q0, q1, q2, q3, hlt, hl2]) | (refine DW_exit ?_; simp [hnt, Try.ntmps107, Try.results107, anWB8107, dStr, hlt', hx, hx', hy, hy', q0, q1, q2, q3, hlt, hl2]) | (refine DW_skip ?_; simp [hnt, Try.ntmps107, Try.results107, anWB8107, dStr, hlt', hx, hx', hy, hy', q0, q1, q2, q3, hlt, hl2]) | (intro hc; (try simp [hnt, Try.ntmps107, Try.results107, anWB8107, dStr, hlt', hx, hx', hy, hy', q0, q1, q2, q3, hlt, hl2] at hc); done) | (intro hc; (try simp [hnt, Try.ntmps107, Try.results107, anWB8107, dStr, hlt', hx, hx', hy, hy', q0, q1, q2, q3, hlt, hl2] at hc); (first | (exfalso; omega) | skip)) | (refine ⟨?_, ?_⟩; · omega) | omega | apply_assumption -exfalso -symm | (exfalso; omega)))
    · have hl2 : Op.bytesLess x.data.toList y.data.toList = true := hl
      rw [hl] at hw
      simp only [Bool.true_and] at hw
      (repeat (first | (refine DW_seq fun K hK => ?_) | (refine DW_r anWB8107 Try.mixed (by kernel_rfl) ?_; simp [hnt, Try.ntmps107, Try.results107, anWB8107, dStr, hlt', hx, hx', hy, hy', q0, q1, q2, q3, hlt, hl2]; try simp (disch := omega) only [wrap64_in]) | (refine DW_block ?_) | (focus (refine DW_if ?_ ?_ ?_; (· (simp [hnt, Try.ntmps107, Try.results107, anWB8107, dStr, hlt', hx, hx', hy, hy', q0, q1, q2, q3, hlt, hl2]; done)); (try (rotate_left; (· (intro hc; (try simp [hnt, Try.ntmps107, Try.results107, anWB8107, dStr, hlt', hx, hx', hy, hy', q0, q1, q2, q3, hlt, hl2] at hc); done)))))) | (refine DW_ret ?_; simp [hnt, Try.ntmps107, Try.results107, anWB8107, dStr, hlt', hx, hx', hy, hy', q0, q1, q2, q3, hlt, hl2]) | (refine DW_exit ?_; simp [hnt, Try.ntmps107, Try.results107, anWB8107, dStr, hlt', hx, hx', hy, hy', q0, q1, q2, q3, hlt, hl2]) | (refine DW_skip ?_; simp [hnt, Try.ntmps107, Try.results107, anWB8107, dStr, hlt', hx, hx', hy, hy', q0, q1, q2, q3, hlt, hl2]) | (intro hc; (try simp [hnt, Try.ntmps107, Try.results107, anWB8107, dStr, hlt', hx, hx', hy, hy', q0, q1, q2, q3, hlt, hl2] at hc); done) | (intro hc; (try simp [hnt, Try.ntmps107, Try.results107, anWB8107, dStr, hlt', hx, hx', hy, hy', q0, q1, q2, q3, hlt, hl2] at hc); (first | (exfalso; omega) | skip)) | (refine ⟨?_, ?_⟩; · omega) | omega | apply_assumption -exfalso -symm | (exfalso; omega)))
      simp [hnt, Try.ntmps107, Try.results107, anWB8107, dStr, hlt', hx, hx', hy, hy', q0, q1, q2, q3, hlt, hl2]
      (repeat (first | (refine DW_seq fun K hK => ?_) | (refine DW_r anWB8107 Try.mixed (by kernel_rfl) ?_; simp [hnt, Try.ntmps107, Try.results107, anWB8107, dStr, hlt', hx, hx', hy, hy', q0, q1, q2, q3, hlt, hl2]; try simp (disch := omega) only [wrap64_in]) | (refine DW_block ?_) | (focus (refine DW_if ?_ ?_ ?_; (· (simp [hnt, Try.ntmps107, Try.results107, anWB8107, dStr, hlt', hx, hx', hy, hy', q0, q1, q2, q3, hlt, hl2]; done)); (try (rotate_left; (· (intro hc; (try simp [hnt, Try.ntmps107, Try.results107, anWB8107, dStr, hlt', hx, hx', hy, hy', q0, q1, q2, q3, hlt, hl2] at hc); done)))))) | (refine DW_ret ?_; simp [hnt, Try.ntmps107, Try.results107, anWB8107, dStr, hlt', hx, hx', hy, hy', q0, q1, q2, q3, hlt, hl2]) | (refine DW_exit ?_; simp [hnt, Try.ntmps107, Try.results107, anWB8107, dStr, hlt', hx, hx', hy, hy', q0, q1, q2, q3, hlt, hl2]) | (refine DW_skip ?_; simp [hnt, Try.ntmps107, Try.results107, anWB8107, dStr, hlt', hx, hx', hy, hy', q0, q1, q2, q3, hlt, hl2]) | (intro hc; (try simp [hnt, Try.ntmps107, Try.results107, anWB8107, dStr, hlt', hx, hx', hy, hy', q0, q1, q2, q3, hlt, hl2] at hc); done) | (intro hc; (try simp [hnt, Try.ntmps107, Try.results107, anWB8107, dStr, hlt', hx, hx', hy, hy', q0, q1, q2, q3, hlt, hl2] at hc); (first | (exfalso; omega) | skip)) | (refine ⟨?_, ?_⟩; · omega) | omega | apply_assumption -exfalso -symm | (exfalso; omega)))
      exact Again.mk ⟨k + 1, by omega, hw⟩ (Sub.lit (by simp)) (by simp; omega)
      (repeat (first | (refine DW_seq fun K hK => ?_) | (refine DW_r anWB8107 Try.mixed (by kernel_rfl) ?_; simp [hnt, Try.ntmps107, Try.results107, anWB8107]; try simp (disch := omega) only [wrap64_in]) | (refine DW_block ?_) | (focus (refine DW_if ?_ ?_ ?_; (· (simp [hnt, Try.ntmps107, Try.results107, anWB8107]; done)); (try (rotate_left; (· (intro hc; (try simp [hnt, Try.ntmps107, Try.results107, anWB8107] at hc); done)))))) | (refine DW_ret ?_; simp [hnt, Try.ntmps107, Try.results107, anWB8107]) | (refine DW_exit ?_; simp [hnt, Try.ntmps107, Try.results107, anWB8107]) | (refine DW_skip ?_; simp [hnt, Try.ntmps107, Try.results107, anWB8107]) | (intro hc; (try simp [hnt, Try.ntmps107, Try.results107, anWB8107] at hc); done) | (intro hc; (try simp [hnt, Try.ntmps107, Try.results107, anWB8107] at hc); (first | (exfalso; omega) | skip)) | (refine ⟨?_, ?_⟩; · omega) | omega | apply_assumption -exfalso -symm | (exfalso; omega)))
  · have hlt' : ¬ (k : Int) + 1 < ns.length := by omega
    rw [risB_end (by omega)] at hw
    rw [hw] at hR
    simp only [Bool.true_and] at hR
    have hp := risB_pair hw
    (repeat (first | (refine DW_seq fun K hK => ?_) | (refine DW_r anWB8107 Try.mixed (by kernel_rfl) ?_; simp [hnt, Try.ntmps107, Try.results107, anWB8107, hlt']; try simp (disch := omega) only [wrap64_in]) | (refine DW_block ?_) | (focus (refine DW_if ?_ ?_ ?_; (· (simp [hnt, Try.ntmps107, Try.results107, anWB8107, hlt']; done)); (try (rotate_left; (· (intro hc; (try simp [hnt, Try.ntmps107, Try.results107, anWB8107, hlt'] at hc); done)))))) | (refine DW_ret ?_; simp [hnt, Try.ntmps107, Try.results107, anWB8107, hlt']) | (refine DW_exit ?_; simp [hnt, Try.ntmps107, Try.results107, anWB8107, hlt']) | (refine DW_skip ?_; simp [hnt, Try.ntmps107, Try.results107, anWB8107, hlt']) | (intro hc; (try simp [hnt, Try.ntmps107, Try.results107, anWB8107, hlt'] at hc); done) | (intro hc; (try simp [hnt, Try.ntmps107, Try.results107, anWB8107, hlt'] at hc); (first | (exfalso; omega) | skip)) | (refine ⟨?_, ?_⟩; · omega) | omega | apply_assumption -exfalso -symm | (exfalso; omega)))
    -- edges: up to k all are rising and among
    refine DW_loop (X := {k : Nat // k ≤ es.length ∧ R = ((match k with | 0 => risB eLess es | j + 1 => risB eLess (es.drop j)) && (es.drop k).all (inG ns))}) (fun k => ⟨[(1, .ref [dStrs ns, dEds es]), (4, .int .i64 k.1)], []⟩) (fun k => es.length - k.1) ⟨0, by simp [hR]⟩ (Sub.lit (by simp)) ?_
    rintro ⟨k, hk, hw⟩
    clear hR
    by_cases hlt : k < es.length
    · obtain ⟨x, hx, hx', _⟩ := at_lt' hlt
      have a1 := among_pure ns x.fr hp
      have a2 := among_pure ns x.to hp
      -- the members' part, once the order is told
      have hlt2 : (k : Int) < es.length := by omega
      match k, hk, hw, hlt, hx, hx', hlt2 with
      | 0, hk, hw, hlt, hx, hx', hlt2 =>
        simp only at hw
        rw [all_drop hx] at hw
        by_cases c1 : x.fr ∈ ns
        · simp only [c1, decide_true] at a1
          by_cases c2 : x.to ∈ ns
          · simp only [c2, decide_true] at a2
            have hi : inG ns x = true := by simp [inG, c1, c2]
            rw [hi, Bool.true_and] at hw
            (repeat (first | (refine DW_seq fun K hK => ?_) | (refine DW_r anWB8107 Try.mixed (by kernel_rfl) ?_; simp [hnt, Try.ntmps107, Try.results107, anWB8107, dEdge, hlt, hx, hx', hlt2]; try simp (disch := omega) only [wrap64_in]) | (refine DW_block ?_) | (focus (refine DW_if ?_ ?_ ?_; (· (simp [hnt, Try.ntmps107, Try.results107, anWB8107, dEdge, hlt, hx, hx', hlt2]; done)); (try (rotate_left; (· (intro hc; (try simp [hnt, Try.ntmps107, Try.results107, anWB8107, dEdge, hlt, hx, hx', hlt2] at hc); done)))))) | (refine DW_ret ?_; simp [hnt, Try.ntmps107, Try.results107, anWB8107, dEdge, hlt, hx, hx', hlt2]) | (refine DW_exit ?_; simp [hnt, Try.ntmps107, Try.results107, anWB8107, dEdge, hlt, hx, hx', hlt2]) | (refine DW_skip ?_; simp [hnt, Try.ntmps107, Try.results107, anWB8107, dEdge, hlt, hx, hx', hlt2]) | (intro hc; (try simp [hnt, Try.ntmps107, Try.results107, anWB8107, dEdge, hlt, hx, hx', hlt2] at hc); done) | (intro hc; (try simp [hnt, Try.ntmps107, Try.results107, anWB8107, dEdge, hlt, hx, hx', hlt2] at hc); (first | (exfalso; omega) | skip)) | (refine callP_mk (a1) ?_; try simp [hnt, Try.ntmps107, Try.results107, anWB8107, dEdge, hlt, hx, hx', hlt2]) | (refine callP_wk (a1) ?_ ?_; (· (simp; done)); try simp [hnt, Try.ntmps107, Try.results107, anWB8107, dEdge, hlt, hx, hx', hlt2]) | (refine callP_mk (a2) ?_; try simp [hnt, Try.ntmps107, Try.results107, anWB8107, dEdge, hlt, hx, hx', hlt2]) | (refine callP_wk (a2) ?_ ?_; (· (simp; done)); try simp [hnt, Try.ntmps107, Try.results107, anWB8107, dEdge, hlt, hx, hx', hlt2]) | (refine ⟨?_, ?_⟩; · omega) | omega | apply_assumption -exfalso -symm | (exfalso; omega)))
            exact Again.mk ⟨1, by omega, by simpa using hw⟩ (Sub.lit (by simp)) (by simp; omega)
            (repeat (first | (refine DW_seq fun K hK => ?_) | (refine DW_r anWB8107 Try.mixed (by kernel_rfl) ?_; simp [hnt, Try.ntmps107, Try.results107, anWB8107]; try simp (disch := omega) only [wrap64_in]) | (refine DW_block ?_) | (focus (refine DW_if ?_ ?_ ?_; (· (simp [hnt, Try.ntmps107, Try.results107, anWB8107]; done)); (try (rotate_left; (· (intro hc; (try simp [hnt, Try.ntmps107, Try.results107, anWB8107] at hc); done)))))) | (refine DW_ret ?_; simp [hnt, Try.ntmps107, Try.results107, anWB8107]) | (refine DW_exit ?_; simp [hnt, Try.ntmps107, Try.results107, anWB8107]) | (refine DW_skip ?_; simp [hnt, Try.ntmps107, Try.results107, anWB8107]) | (intro hc; (try simp [hnt, Try.ntmps107, Try.results107, anWB8107] at hc); done) | (intro hc; (try simp [hnt, Try.ntmps107, Try.results107, anWB8107] at hc); (first | (exfalso; omega) | skip)) | (refine callP_mk (a1) ?_; try simp [hnt, Try.ntmps107, Try.results107, anWB8107]) | (refine callP_wk (a1) ?_ ?_; (· (simp; done)); try simp [hnt, Try.ntmps107, Try.results107, anWB8107]) | (refine callP_mk (a2) ?_; try simp [hnt, Try.ntmps107, Try.results107, anWB8107]) | (refine callP_wk (a2) ?_ ?_; (· (simp; done)); try simp [hnt, Try.ntmps107, Try.results107, anWB8107]) | (refine ⟨?_, ?_⟩; · omega) | omega | apply_assumption -exfalso -symm | (exfalso; omega)))
          · simp only [c2, decide_false] at a2
            have hi : inG ns x = false := by simp [inG, c2]
            rw [hi, Bool.false_and, Bool.and_false] at hw
            subst hw
            (repeat (first | (refine DW_seq fun K hK => ?_) | (refine DW_r anWB8107 Try.mixed (by kernel_rfl) ?_; simp [hnt, Try.ntmps107, Try.results107, anWB8107, dEdge, hlt, hx, hx', hlt2]; try simp (disch := omega) only [wrap64_in]) | (refine DW_block ?_) | (focus (refine DW_if ?_ ?_ ?_; (· (simp [hnt, Try.ntmps107, Try.results107, anWB8107, dEdge, hlt, hx, hx', hlt2]; done)); (try (rotate_left; (· (intro hc; (try simp [hnt, Try.ntmps107, Try.results107, anWB8107, dEdge, hlt, hx, hx', hlt2] at hc); done)))))) | (refine DW_ret ?_; simp [hnt, Try.ntmps107, Try.results107, anWB8107, dEdge, hlt, hx, hx', hlt2]) | (refine DW_exit ?_; simp [hnt, Try.ntmps107, Try.results107, anWB8107, dEdge, hlt, hx, hx', hlt2]) | (refine DW_skip ?_; simp [hnt, Try.ntmps107, Try.results107, anWB8107, dEdge, hlt, hx, hx', hlt2]) | (intro hc; (try simp [hnt, Try.ntmps107, Try.results107, anWB8107, dEdge, hlt, hx, hx', hlt2] at hc); done) | (intro hc; (try simp [hnt, Try.ntmps107, Try.results107, anWB8107, dEdge, hlt, hx, hx', hlt2] at hc); (first | (exfalso; omega) | skip)) | (refine callP_mk (a1) ?_; try simp [hnt, Try.ntmps107, Try.results107, anWB8107, dEdge, hlt, hx, hx', hlt2]) | (refine callP_wk (a1) ?_ ?_; (· (simp; done)); try simp [hnt, Try.ntmps107, Try.results107, anWB8107, dEdge, hlt, hx, hx', hlt2]) | (refine callP_mk (a2) ?_; try simp [hnt, Try.ntmps107, Try.results107, anWB8107, dEdge, hlt, hx, hx', hlt2]) | (refine callP_wk (a2) ?_ ?_; (· (simp; done)); try simp [hnt, Try.ntmps107, Try.results107, anWB8107, dEdge, hlt, hx, hx', hlt2]) | (refine ⟨?_, ?_⟩; · omega) | omega | apply_assumption -exfalso -symm | (exfalso; omega)))
        · simp only [c1, decide_false] at a1
          have hi : inG ns x = false := by simp [inG, c1]
          rw [hi, Bool.false_and, Bool.and_false] at hw
          subst hw
          (repeat (first | (refine DW_seq fun K hK => ?_) | (refine DW_r anWB8107 Try.mixed (by kernel_rfl) ?_; simp [hnt, Try.ntmps107, Try.results107, anWB8107, dEdge, hlt, hx, hx', hlt2]; try simp (disch := omega) only [wrap64_in]) | (refine DW_block ?_) | (focus (refine DW_if ?_ ?_ ?_; (· (simp [hnt, Try.ntmps107, Try.results107, anWB8107, dEdge, hlt, hx, hx', hlt2]; done)); (try (rotate_left; (· (intro hc; (try simp [hnt, Try.ntmps107, Try.results107, anWB8107, dEdge, hlt, hx, hx', hlt2] at hc); done)))))) | (refine DW_ret ?_; simp [hnt, Try.ntmps107, Try.results107, anWB8107, dEdge, hlt, hx, hx', hlt2]) | (refine DW_exit ?_; simp [hnt, Try.ntmps107, Try.results107, anWB8107, dEdge, hlt, hx, hx', hlt2]) | (refine DW_skip ?_; simp [hnt, Try.ntmps107, Try.results107, anWB8107, dEdge, hlt, hx, hx', hlt2]) | (intro hc; (try simp [hnt, Try.ntmps107, Try.results107, anWB8107, dEdge, hlt, hx, hx', hlt2] at hc); done) | (intro hc; (try simp [hnt, Try.ntmps107, Try.results107, anWB8107, dEdge, hlt, hx, hx', hlt2] at hc); (first | (exfalso; omega) | skip)) | (refine callP_mk (a1) ?_; try simp [hnt, Try.ntmps107, Try.results107, anWB8107, dEdge, hlt, hx, hx', hlt2]) | (refine callP_wk (a1) ?_ ?_; (· (simp; done)); try simp [hnt, Try.ntmps107, Try.results107, anWB8107, dEdge, hlt, hx, hx', hlt2]) | (refine callP_mk (a2) ?_; try simp [hnt, Try.ntmps107, Try.results107, anWB8107, dEdge, hlt, hx, hx', hlt2]) | (refine callP_wk (a2) ?_ ?_; (· (simp; done)); try simp [hnt, Try.ntmps107, Try.results107, anWB8107, dEdge, hlt, hx, hx', hlt2]) | (refine ⟨?_, ?_⟩; · omega) | omega | apply_assumption -exfalso -symm | (exfalso; omega)))
      | j + 1, hk, hw, hlt, hx, hx', hlt2 =>
        simp only at hw
        obtain ⟨y, hy, hy', _⟩ := at_lt' (show j < es.length by omega)
        rw [all_drop hx, risB_drop hy hx] at hw
        have b1 := before_pure y x
        simp only [dEdge] at b1
        have q0 : ((j + 1 : Nat) : Int) - 1 = j := by omega
        have q1 : (((j + 1 : Nat) : Int)).toNat = j + 1 := by omega
        have q2 : j < es.length := by omega
        have q4 : (0 : Int) < ((j + 1 : Nat) : Int) := by omega
        have q5 : (0 : Int) < (j : Int) + 1 := by omega
        have q6 : (j : Int) + 1 - 1 = j := by omega
        have q7 : ((j : Int) + 1).toNat = j + 1 := by omega
        have q8 : (0 : Int) ≤ (j : Int) + 1 := by omega
        have q9 : (j : Int) + 1 < es.length := by omega
        cases hb : eLess y x
        · rw [hb] at b1 hw
          simp only [Bool.false_and] at hw
          subst hw
          (repeat (first | (refine DW_seq fun K hK => ?_) | (refine DW_r anWB8107 Try.mixed (by kernel_rfl) ?_; simp [hnt, Try.ntmps107, Try.results107, anWB8107, dEdge, hlt, hx, hx', hlt2, hy, hy', q0, q1, q2, q4, q5, q6, q7, q8, q9]; try simp (disch := omega) only [wrap64_in]) | (refine DW_block ?_) | (focus (refine DW_if ?_ ?_ ?_; (· (simp [hnt, Try.ntmps107, Try.results107, anWB8107, dEdge, hlt, hx, hx', hlt2, hy, hy', q0, q1, q2, q4, q5, q6, q7, q8, q9]; done)); (try (rotate_left; (· (intro hc; (try simp [hnt, Try.ntmps107, Try.results107, anWB8107, dEdge, hlt, hx, hx', hlt2, hy, hy', q0, q1, q2, q4, q5, q6, q7, q8, q9] at hc); done)))))) | (refine DW_ret ?_; simp [hnt, Try.ntmps107, Try.results107, anWB8107, dEdge, hlt, hx, hx', hlt2, hy, hy', q0, q1, q2, q4, q5, q6, q7, q8, q9]) | (refine DW_exit ?_; simp [hnt, Try.ntmps107, Try.results107, anWB8107, dEdge, hlt, hx, hx', hlt2, hy, hy', q0, q1, q2, q4, q5, q6, q7, q8, q9]) | (refine DW_skip ?_; simp [hnt, Try.ntmps107, Try.results107, anWB8107, dEdge, hlt, hx, hx', hlt2, hy, hy', q0, q1, q2, q4, q5, q6, q7, q8, q9]) | (intro hc; (try simp [hnt, Try.ntmps107, Try.results107, anWB8107, dEdge, hlt, hx, hx', hlt2, hy, hy', q0, q1, q2, q4, q5, q6, q7, q8, q9] at hc); done) | (intro hc; (try simp [hnt, Try.ntmps107, Try.results107, anWB8107, dEdge, hlt, hx, hx', hlt2, hy, hy', q0, q1, q2, q4, q5, q6, q7, q8, q9] at hc); (first | (exfalso; omega) | skip)) | (refine callP_mk (b1) ?_; try simp [hnt, Try.ntmps107, Try.results107, anWB8107, dEdge, hlt, hx, hx', hlt2, hy, hy', q0, q1, q2, q4, q5, q6, q7, q8, q9]) | (refine callP_wk (b1) ?_ ?_; (· (simp; done)); try simp [hnt, Try.ntmps107, Try.results107, anWB8107, dEdge, hlt, hx, hx', hlt2, hy, hy', q0, q1, q2, q4, q5, q6, q7, q8, q9]) | (refine callP_mk (a1) ?_; try simp [hnt, Try.ntmps107, Try.results107, anWB8107, dEdge, hlt, hx, hx', hlt2, hy, hy', q0, q1, q2, q4, q5, q6, q7, q8, q9]) | (refine callP_wk (a1) ?_ ?_; (· (simp; done)); try simp [hnt, Try.ntmps107, Try.results107, anWB8107, dEdge, hlt, hx, hx', hlt2, hy, hy', q0, q1, q2, q4, q5, q6, q7, q8, q9]) | (refine callP_mk (a2) ?_; try simp [hnt, Try.ntmps107, Try.results107, anWB8107, dEdge, hlt, hx, hx', hlt2, hy, hy', q0, q1, q2, q4, q5, q6, q7, q8, q9]) | (refine callP_wk (a2) ?_ ?_; (· (simp; done)); try simp [hnt, Try.ntmps107, Try.results107, anWB8107, dEdge, hlt, hx, hx', hlt2, hy, hy', q0, q1, q2, q4, q5, q6, q7, q8, q9]) | (refine ⟨?_, ?_⟩; · omega) | omega | apply_assumption -exfalso -symm | (exfalso; omega)))
          simp [hnt, Try.ntmps107, Try.results107, anWB8107, dEdge, hlt, hx, hx', hlt2, hy, hy', q0, q1, q2, q4, q5, q6, q7, q8, q9]
          (repeat (first | (refine DW_seq fun K hK => ?_) | (refine DW_r anWB8107 Try.mixed (by kernel_rfl) ?_; simp [hnt, Try.ntmps107, Try.results107, anWB8107, dEdge, hlt, hx, hx', hlt2, hy, hy', q0, q1, q2, q4, q5, q6, q7, q8, q9]; try simp (disch := omega) only [wrap64_in]) | (refine DW_block ?_) | (focus (refine DW_if ?_ ?_ ?_; (· (simp [hnt, Try.ntmps107, Try.results107, anWB8107, dEdge, hlt, hx, hx', hlt2, hy, hy', q0, q1, q2, q4, q5, q6, q7, q8, q9]; done)); (try (rotate_left; (· (intro hc; (try simp [hnt, Try.ntmps107, Try.results107, anWB8107, dEdge, hlt, hx, hx', hlt2, hy, hy', q0, q1, q2, q4, q5, q6, q7, q8, q9] at hc); done)))))) | (refine DW_ret ?_; simp [hnt, Try.ntmps107, Try.results107, anWB8107, dEdge, hlt, hx, hx', hlt2, hy, hy', q0, q1, q2, q4, q5, q6, q7, q8, q9]) | (refine DW_exit ?_; simp [hnt, Try.ntmps107, Try.results107, anWB8107, dEdge, hlt, hx, hx', hlt2, hy, hy', q0, q1, q2, q4, q5, q6, q7, q8, q9]) | (refine DW_skip ?_; simp [hnt, Try.ntmps107, Try.results107, anWB8107, dEdge, hlt, hx, hx', hlt2, hy, hy', q0, q1, q2, q4, q5, q6, q7, q8, q9]) | (intro hc; (try simp [hnt, Try.ntmps107, Try.results107, anWB8107, dEdge, hlt, hx, hx', hlt2, hy, hy', q0, q1, q2, q4, q5, q6, q7, q8, q9] at hc); done) | (intro hc; (try simp [hnt, Try.ntmps107, Try.results107, anWB8107, dEdge, hlt, hx, hx', hlt2, hy, hy', q0, q1, q2, q4, q5, q6, q7, q8, q9] at hc); (first | (exfalso; omega) | skip)) | (refine callP_mk (b1) ?_; try simp [hnt, Try.ntmps107, Try.results107, anWB8107, dEdge, hlt, hx, hx', hlt2, hy, hy', q0, q1, q2, q4, q5, q6, q7, q8, q9]) | (refine callP_wk (b1) ?_ ?_; (· (simp; done)); try simp [hnt, Try.ntmps107, Try.results107, anWB8107, dEdge, hlt, hx, hx', hlt2, hy, hy', q0, q1, q2, q4, q5, q6, q7, q8, q9]) | (refine callP_mk (a1) ?_; try simp [hnt, Try.ntmps107, Try.results107, anWB8107, dEdge, hlt, hx, hx', hlt2, hy, hy', q0, q1, q2, q4, q5, q6, q7, q8, q9]) | (refine callP_wk (a1) ?_ ?_; (· (simp; done)); try simp [hnt, Try.ntmps107, Try.results107, anWB8107, dEdge, hlt, hx, hx', hlt2, hy, hy', q0, q1, q2, q4, q5, q6, q7, q8, q9]) | (refine callP_mk (a2) ?_; try simp [hnt, Try.ntmps107, Try.results107, anWB8107, dEdge, hlt, hx, hx', hlt2, hy, hy', q0, q1, q2, q4, q5, q6, q7, q8, q9]) | (refine callP_wk (a2) ?_ ?_; (· (simp; done)); try simp [hnt, Try.ntmps107, Try.results107, anWB8107, dEdge, hlt, hx, hx', hlt2, hy, hy', q0, q1, q2, q4, q5, q6, q7, q8, q9]) | (refine ⟨?_, ?_⟩; · omega) | omega | apply_assumption -exfalso -symm | (exfalso; omega)))
        · rw [hb] at b1 hw
          simp only [Bool.true_and] at hw
          by_cases c1 : x.fr ∈ ns
          · simp only [c1, decide_true] at a1
            by_cases c2 : x.to ∈ ns
            · simp only [c2, decide_true] at a2
              have hi : inG ns x = true := by simp [inG, c1, c2]
              rw [hi, Bool.true_and] at hw
              (repeat (first | (refine DW_seq fun K hK => ?_) | (refine DW_r anWB8107 Try.mixed (by kernel_rfl) ?_; simp [hnt, Try.ntmps107, Try.results107, anWB8107, dEdge, hlt, hx, hx', hlt2, hy, hy', q0, q1, q2, q4, q5, q6, q7, q8, q9]; try simp (disch := omega) only [wrap64_in]) | (refine DW_block ?_) | (focus (refine DW_if ?_ ?_ ?_; (· (simp [hnt, Try.ntmps107, Try.results107, anWB8107, dEdge, hlt, hx, hx', hlt2, hy, hy', q0, q1, q2, q4, q5, q6, q7, q8, q9]; done)); (try (rotate_left; (· (intro hc; (try simp [hnt, Try.ntmps107, Try.results107, anWB8107, dEdge, hlt, hx, hx', hlt2, hy, hy', q0, q1, q2, q4, q5, q6, q7, q8, q9] at hc); done)))))) | (refine DW_ret ?_; simp [hnt, Try.ntmps107, Try.results107, anWB8107, dEdge, hlt, hx, hx', hlt2, hy, hy', q0, q1, q2, q4, q5, q6, q7, q8, q9]) | (refine DW_exit ?_; simp [hnt, Try.ntmps107, Try.results107, anWB8107, dEdge, hlt, hx, hx', hlt2, hy, hy', q0, q1, q2, q4, q5, q6, q7, q8, q9]) | (refine DW_skip ?_; simp [hnt, Try.ntmps107, Try.results107, anWB8107, dEdge, hlt, hx, hx', hlt2, hy, hy', q0, q1, q2, q4, q5, q6, q7, q8, q9]) | (intro hc; (try simp [hnt, Try.ntmps107, Try.results107, anWB8107, dEdge, hlt, hx, hx', hlt2, hy, hy', q0, q1, q2, q4, q5, q6, q7, q8, q9] at hc); done) | (intro hc; (try simp [hnt, Try.ntmps107, Try.results107, anWB8107, dEdge, hlt, hx, hx', hlt2, hy, hy', q0, q1, q2, q4, q5, q6, q7, q8, q9] at hc); (first | (exfalso; omega) | skip)) | (refine callP_mk (b1) ?_; try simp [hnt, Try.ntmps107, Try.results107, anWB8107, dEdge, hlt, hx, hx', hlt2, hy, hy', q0, q1, q2, q4, q5, q6, q7, q8, q9]) | (refine callP_wk (b1) ?_ ?_; (· (simp; done)); try simp [hnt, Try.ntmps107, Try.results107, anWB8107, dEdge, hlt, hx, hx', hlt2, hy, hy', q0, q1, q2, q4, q5, q6, q7, q8, q9]) | (refine callP_mk (a1) ?_; try simp [hnt, Try.ntmps107, Try.results107, anWB8107, dEdge, hlt, hx, hx', hlt2, hy, hy', q0, q1, q2, q4, q5, q6, q7, q8, q9]) | (refine callP_wk (a1) ?_ ?_; (· (simp; done)); try simp [hnt, Try.ntmps107, Try.results107, anWB8107, dEdge, hlt, hx, hx', hlt2, hy, hy', q0, q1, q2, q4, q5, q6, q7, q8, q9]) | (refine callP_mk (a2) ?_; try simp [hnt, Try.ntmps107, Try.results107, anWB8107, dEdge, hlt, hx, hx', hlt2, hy, hy', q0, q1, q2, q4, q5, q6, q7, q8, q9]) | (refine callP_wk (a2) ?_ ?_; (· (simp; done)); try simp [hnt, Try.ntmps107, Try.results107, anWB8107, dEdge, hlt, hx, hx', hlt2, hy, hy', q0, q1, q2, q4, q5, q6, q7, q8, q9]) | (refine ⟨?_, ?_⟩; · omega) | omega | apply_assumption -exfalso -symm | (exfalso; omega)))
              simp [hnt, Try.ntmps107, Try.results107, anWB8107, dEdge, hlt, hx, hx', hlt2, hy, hy', q0, q1, q2, q4, q5, q6, q7, q8, q9]
              (repeat (first | (refine DW_seq fun K hK => ?_) | (refine DW_r anWB8107 Try.mixed (by kernel_rfl) ?_; simp [hnt, Try.ntmps107, Try.results107, anWB8107, dEdge, hlt, hx, hx', hlt2, hy, hy', q0, q1, q2, q4, q5, q6, q7, q8, q9]; try simp (disch := omega) only [wrap64_in]) | (refine DW_block ?_) | (focus (refine DW_if ?_ ?_ ?_; (· (simp [hnt, Try.ntmps107, Try.results107, anWB8107, dEdge, hlt, hx, hx', hlt2, hy, hy', q0, q1, q2, q4, q5, q6, q7, q8, q9]; done)); (try (rotate_left; (· (intro hc; (try simp [hnt, Try.ntmps107, Try.results107, anWB8107, dEdge, hlt, hx, hx', hlt2, hy, hy', q0, q1, q2, q4, q5, q6, q7, q8, q9] at hc); done)))))) | (refine DW_ret ?_; simp [hnt, Try.ntmps107, Try.results107, anWB8107, dEdge, hlt, hx, hx', hlt2, hy, hy', q0, q1, q2, q4, q5, q6, q7, q8, q9]) | (refine DW_exit ?_; simp [hnt, Try.ntmps107, Try.results107, anWB8107, dEdge, hlt, hx, hx', hlt2, hy, hy', q0, q1, q2, q4, q5, q6, q7, q8, q9]) | (refine DW_skip ?_; simp [hnt, Try.ntmps107, Try.results107, anWB8107, dEdge, hlt, hx, hx', hlt2, hy, hy', q0, q1, q2, q4, q5, q6, q7, q8, q9]) | (intro hc; (try simp [hnt, Try.ntmps107, Try.results107, anWB8107, dEdge, hlt, hx, hx', hlt2, hy, hy', q0, q1, q2, q4, q5, q6, q7, q8, q9] at hc); done) | (intro hc; (try simp [hnt, Try.ntmps107, Try.results107, anWB8107, dEdge, hlt, hx, hx', hlt2, hy, hy', q0, q1, q2, q4, q5, q6, q7, q8, q9] at hc); (first | (exfalso; omega) | skip)) | (refine callP_mk (b1) ?_; try simp [hnt, Try.ntmps107, Try.results107, anWB8107, dEdge, hlt, hx, hx', hlt2, hy, hy', q0, q1, q2, q4, q5, q6, q7, q8, q9]) | (refine callP_wk (b1) ?_ ?_; (· (simp; done)); try simp [hnt, Try.ntmps107, Try.results107, anWB8107, dEdge, hlt, hx, hx', hlt2, hy, hy', q0, q1, q2, q4, q5, q6, q7, q8, q9]) | (refine callP_mk (a1) ?_; try simp [hnt, Try.ntmps107, Try.results107, anWB8107, dEdge, hlt, hx, hx', hlt2, hy, hy', q0, q1, q2, q4, q5, q6, q7, q8, q9]) | (refine callP_wk (a1) ?_ ?_; (· (simp; done)); try simp [hnt, Try.ntmps107, Try.results107, anWB8107, dEdge, hlt, hx, hx', hlt2, hy, hy', q0, q1, q2, q4, q5, q6, q7, q8, q9]) | (refine callP_mk (a2) ?_; try simp [hnt, Try.ntmps107, Try.results107, anWB8107, dEdge, hlt, hx, hx', hlt2, hy, hy', q0, q1, q2, q4, q5, q6, q7, q8, q9]) | (refine callP_wk (a2) ?_ ?_; (· (simp; done)); try simp [hnt, Try.ntmps107, Try.results107, anWB8107, dEdge, hlt, hx, hx', hlt2, hy, hy', q0, q1, q2, q4, q5, q6, q7, q8, q9]) | (refine ⟨?_, ?_⟩; · omega) | omega | apply_assumption -exfalso -symm | (exfalso; omega)))
              exact Again.mk ⟨j + 2, by omega, hw⟩ (Sub.lit (by simp; omega)) (by simp; omega)
              (repeat (first | (refine DW_seq fun K hK => ?_) | (refine DW_r anWB8107 Try.mixed (by kernel_rfl) ?_; simp [hnt, Try.ntmps107, Try.results107, anWB8107]; try simp (disch := omega) only [wrap64_in]) | (refine DW_block ?_) | (focus (refine DW_if ?_ ?_ ?_; (· (simp [hnt, Try.ntmps107, Try.results107, anWB8107]; done)); (try (rotate_left; (· (intro hc; (try simp [hnt, Try.ntmps107, Try.results107, anWB8107] at hc); done)))))) | (refine DW_ret ?_; simp [hnt, Try.ntmps107, Try.results107, anWB8107]) | (refine DW_exit ?_; simp [hnt, Try.ntmps107, Try.results107, anWB8107]) | (refine DW_skip ?_; simp [hnt, Try.ntmps107, Try.results107, anWB8107]) | (intro hc; (try simp [hnt, Try.ntmps107, Try.results107, anWB8107] at hc); done) | (intro hc; (try simp [hnt, Try.ntmps107, Try.results107, anWB8107] at hc); (first | (exfalso; omega) | skip)) | (refine callP_mk (b1) ?_; try simp [hnt, Try.ntmps107, Try.results107, anWB8107]) | (refine callP_wk (b1) ?_ ?_; (· (simp; done)); try simp [hnt, Try.ntmps107, Try.results107, anWB8107]) | (refine callP_mk (a1) ?_; try simp [hnt, Try.ntmps107, Try.results107, anWB8107]) | (refine callP_wk (a1) ?_ ?_; (· (simp; done)); try simp [hnt, Try.ntmps107, Try.results107, anWB8107]) | (refine callP_mk (a2) ?_; try simp [hnt, Try.ntmps107, Try.results107, anWB8107]) | (refine callP_wk (a2) ?_ ?_; (· (simp; done)); try simp [hnt, Try.ntmps107, Try.results107, anWB8107]) | (refine ⟨?_, ?_⟩; · omega) | omega | apply_assumption -exfalso -symm | (exfalso; omega)))
            · simp only [c2, decide_false] at a2
              have hi : inG ns x = false := by simp [inG, c2]
              rw [hi, Bool.false_and, Bool.and_false] at hw
              subst hw
              (repeat (first | (refine DW_seq fun K hK => ?_) | (refine DW_r anWB8107 Try.mixed (by kernel_rfl) ?_; simp [hnt, Try.ntmps107, Try.results107, anWB8107, dEdge, hlt, hx, hx', hlt2, hy, hy', q0, q1, q2, q4, q5, q6, q7, q8, q9]; try simp (disch := omega) only [wrap64_in]) | (refine DW_block ?_) | (focus (refine DW_if ?_ ?_ ?_; (· (simp [hnt, Try.ntmps107, Try.results107, anWB8107, dEdge, hlt, hx, hx', hlt2, hy, hy', q0, q1, q2, q4, q5, q6, q7, q8, q9]; done)); (try (rotate_left; (· (intro hc; (try simp [hnt, Try.ntmps107, Try.results107, anWB8107, dEdge, hlt, hx, hx', hlt2, hy, hy', q0, q1, q2, q4, q5, q6, q7, q8, q9] at hc); done)))))) | (refine DW_ret ?_; simp [hnt, Try.ntmps107, Try.results107, anWB8107, dEdge, hlt, hx, hx', hlt2, hy, hy', q0, q1, q2, q4, q5, q6, q7, q8, q9]) | (refine DW_exit ?_; simp [hnt, Try.ntmps107, Try.results107, anWB8107, dEdge, hlt, hx, hx', hlt2, hy, hy', q0, q1, q2, q4, q5, q6, q7, q8, q9]) | (refine DW_skip ?_; simp [hnt, Try.ntmps107, Try.results107, anWB8107, dEdge, hlt, hx, hx', hlt2, hy, hy', q0, q1, q2, q4, q5, q6, q7, q8, q9]) | (intro hc; (try simp [hnt, Try.ntmps107, Try.results107, anWB8107, dEdge, hlt, hx, hx', hlt2, hy, hy', q0, q1, q2, q4, q5, q6, q7, q8, q9] at hc); done) | (intro hc; (try simp [hnt, Try.ntmps107, Try.results107, anWB8107, dEdge, hlt, hx, hx', hlt2, hy, hy', q0, q1, q2, q4, q5, q6, q7, q8, q9] at hc); (first | (exfalso; omega) | skip)) | (refine callP_mk (b1) ?_; try simp [hnt, Try.ntmps107, Try.results107, anWB8107, dEdge, hlt, hx, hx', hlt2, hy, hy', q0, q1, q2, q4, q5, q6, q7, q8, q9]) | (refine callP_wk (b1) ?_ ?_; (· (simp; done)); try simp [hnt, Try.ntmps107, Try.results107, anWB8107, dEdge, hlt, hx, hx', hlt2, hy, hy', q0, q1, q2, q4, q5, q6, q7, q8, q9]) | (refine callP_mk (a1) ?_; try simp [hnt, Try.ntmps107, Try.results107, anWB8107, dEdge, hlt, hx, hx', hlt2, hy, hy', q0, q1, q2, q4, q5, q6, q7, q8, q9]) | (refine callP_wk (a1) ?_ ?_; (· (simp; done)); try simp [hnt, Try.ntmps107, Try.results107, anWB8107, dEdge, hlt, hx, hx', hlt2, hy, hy', q0, q1, q2, q4, q5, q6, q7, q8, q9]) | (refine callP_mk (a2) ?_; try simp [hnt, Try.ntmps107, Try.results107, anWB8107, dEdge, hlt, hx, hx', hlt2, hy, hy', q0, q1, q2, q4, q5, q6, q7, q8, q9]) | (refine callP_wk (a2) ?_ ?_; (· (simp; done)); try simp [hnt, Try.ntmps107, Try.results107, anWB8107, dEdge, hlt, hx, hx', hlt2, hy, hy', q0, q1, q2, q4, q5, q6, q7, q8, q9]) | (refine ⟨?_, ?_⟩; · omega) | omega | apply_assumption -exfalso -symm | (exfalso; omega)))
              simp [hnt, Try.ntmps107, Try.results107, anWB8107, dEdge, hlt, hx, hx', hlt2, hy, hy', q0, q1, q2, q4, q5, q6, q7, q8, q9]
              (repeat (first | (refine DW_seq fun K hK => ?_) | (refine DW_r anWB8107 Try.mixed (by kernel_rfl) ?_; simp [hnt, Try.ntmps107, Try.results107, anWB8107, dEdge, hlt, hx, hx', hlt2, hy, hy', q0, q1, q2, q4, q5, q6, q7, q8, q9]; try simp (disch := omega) only [wrap64_in]) | (refine DW_block ?_) | (focus (refine DW_if ?_ ?_ ?_; (· (simp [hnt, Try.ntmps107, Try.results107, anWB8107, dEdge, hlt, hx, hx', hlt2, hy, hy', q0, q1, q2, q4, q5, q6, q7, q8, q9]; done)); (try (rotate_left; (· (intro hc; (try simp [hnt, Try.ntmps107, Try.results107, anWB8107, dEdge, hlt, hx, hx', hlt2, hy, hy', q0, q1, q2, q4, q5, q6, q7, q8, q9] at hc); done)))))) | (refine DW_ret ?_; simp [hnt, Try.ntmps107, Try.results107, anWB8107, dEdge, hlt, hx, hx', hlt2, hy, hy', q0, q1, q2, q4, q5, q6, q7, q8, q9]) | (refine DW_exit ?_; simp [hnt, Try.ntmps107, Try.results107, anWB8107, dEdge, hlt, hx, hx', hlt2, hy, hy', q0, q1, q2, q4, q5, q6, q7, q8, q9]) | (refine DW_skip ?_; simp [hnt, Try.ntmps107, Try.results107, anWB8107, dEdge, hlt, hx, hx', hlt2, hy, hy', q0, q1, q2, q4, q5, q6, q7, q8, q9]) | (intro hc; (try simp [hnt, Try.ntmps107, Try.results107, anWB8107, dEdge, hlt, hx, hx', hlt2, hy, hy', q0, q1, q2, q4, q5, q6, q7, q8, q9] at hc); done) | (intro hc; (try simp [hnt, Try.ntmps107, Try.results107, anWB8107, dEdge, hlt, hx, hx', hlt2, hy, hy', q0, q1, q2, q4, q5, q6, q7, q8, q9] at hc); (first | (exfalso; omega) | skip)) | (refine callP_mk (b1) ?_; try simp [hnt, Try.ntmps107, Try.results107, anWB8107, dEdge, hlt, hx, hx', hlt2, hy, hy', q0, q1, q2, q4, q5, q6, q7, q8, q9]) | (refine callP_wk (b1) ?_ ?_; (· (simp; done)); try simp [hnt, Try.ntmps107, Try.results107, anWB8107, dEdge, hlt, hx, hx', hlt2, hy, hy', q0, q1, q2, q4, q5, q6, q7, q8, q9]) | (refine callP_mk (a1) ?_; try simp [hnt, Try.ntmps107, Try.results107, anWB8107, dEdge, hlt, hx, hx', hlt2, hy, hy', q0, q1, q2, q4, q5, q6, q7, q8, q9]) | (refine callP_wk (a1) ?_ ?_; (· (simp; done)); try simp [hnt, Try.ntmps107, Try.results107, anWB8107, dEdge, hlt, hx, hx', hlt2, hy, hy', q0, q1, q2, q4, q5, q6, q7, q8, q9]) | (refine callP_mk (a2) ?_; try simp [hnt, Try.ntmps107, Try.results107, anWB8107, dEdge, hlt, hx, hx', hlt2, hy, hy', q0, q1, q2, q4, q5, q6, q7, q8, q9]) | (refine callP_wk (a2) ?_ ?_; (· (simp; done)); try simp [hnt, Try.ntmps107, Try.results107, anWB8107, dEdge, hlt, hx, hx', hlt2, hy, hy', q0, q1, q2, q4, q5, q6, q7, q8, q9]) | (refine ⟨?_, ?_⟩; · omega) | omega | apply_assumption -exfalso -symm | (exfalso; omega)))
          · simp only [c1, decide_false] at a1
            have hi : inG ns x = false := by simp [inG, c1]
            rw [hi, Bool.false_and, Bool.and_false] at hw
            subst hw
            (repeat (first | (refine DW_seq fun K hK => ?_) | (refine DW_r anWB8107 Try.mixed (by kernel_rfl) ?_; simp [hnt, Try.ntmps107, Try.results107, anWB8107, dEdge, hlt, hx, hx', hlt2, hy, hy', q0, q1, q2, q4, q5, q6, q7, q8, q9]; try simp (disch := omega) only [wrap64_in]) | (refine DW_block ?_) | (focus (refine DW_if ?_ ?_ ?_; (· (simp [hnt, Try.ntmps107, Try.results107, anWB8107, dEdge, hlt, hx, hx', hlt2, hy, hy', q0, q1, q2, q4, q5, q6, q7, q8, q9]; done)); (try (rotate_left; (· (intro hc; (try simp [hnt, Try.ntmps107, Try.results107, anWB8107, dEdge, hlt, hx, hx', hlt2, hy, hy', q0, q1, q2, q4, q5, q6, q7, q8, q9] at hc); done)))))) | (refine DW_ret ?_; simp [hnt, Try.ntmps107, Try.results107, anWB8107, dEdge, hlt, hx, hx', hlt2, hy, hy', q0, q1, q2, q4, q5, q6, q7, q8, q9]) | (refine DW_exit ?_; simp [hnt, Try.ntmps107, Try.results107, anWB8107, dEdge, hlt, hx, hx', hlt2, hy, hy', q0, q1, q2, q4, q5, q6, q7, q8, q9]) | (refine DW_skip ?_; simp [hnt, Try.ntmps107, Try.results107, anWB8107, dEdge, hlt, hx, hx', hlt2, hy, hy', q0, q1, q2, q4, q5, q6, q7, q8, q9]) | (intro hc; (try simp [hnt, Try.ntmps107, Try.results107, anWB8107, dEdge, hlt, hx, hx', hlt2, hy, hy', q0, q1, q2, q4, q5, q6, q7, q8, q9] at hc); done) | (intro hc; (try simp [hnt, Try.ntmps107, Try.results107, anWB8107, dEdge, hlt, hx, hx', hlt2, hy, hy', q0, q1, q2, q4, q5, q6, q7, q8, q9] at hc); (first | (exfalso; omega) | skip)) | (refine callP_mk (b1) ?_; try simp [hnt, Try.ntmps107, Try.results107, anWB8107, dEdge, hlt, hx, hx', hlt2, hy, hy', q0, q1, q2, q4, q5, q6, q7, q8, q9]) | (refine callP_wk (b1) ?_ ?_; (· (simp; done)); try simp [hnt, Try.ntmps107, Try.results107, anWB8107, dEdge, hlt, hx, hx', hlt2, hy, hy', q0, q1, q2, q4, q5, q6, q7, q8, q9]) | (refine callP_mk (a1) ?_; try simp [hnt, Try.ntmps107, Try.results107, anWB8107, dEdge, hlt, hx, hx', hlt2, hy, hy', q0, q1, q2, q4, q5, q6, q7, q8, q9]) | (refine callP_wk (a1) ?_ ?_; (· (simp; done)); try simp [hnt, Try.ntmps107, Try.results107, anWB8107, dEdge, hlt, hx, hx', hlt2, hy, hy', q0, q1, q2, q4, q5, q6, q7, q8, q9]) | (refine callP_mk (a2) ?_; try simp [hnt, Try.ntmps107, Try.results107, anWB8107, dEdge, hlt, hx, hx', hlt2, hy, hy', q0, q1, q2, q4, q5, q6, q7, q8, q9]) | (refine callP_wk (a2) ?_ ?_; (· (simp; done)); try simp [hnt, Try.ntmps107, Try.results107, anWB8107, dEdge, hlt, hx, hx', hlt2, hy, hy', q0, q1, q2, q4, q5, q6, q7, q8, q9]) | (refine ⟨?_, ?_⟩; · omega) | omega | apply_assumption -exfalso -symm | (exfalso; omega)))
            simp [hnt, Try.ntmps107, Try.results107, anWB8107, dEdge, hlt, hx, hx', hlt2, hy, hy', q0, q1, q2, q4, q5, q6, q7, q8, q9]
            (repeat (first | (refine DW_seq fun K hK => ?_) | (refine DW_r anWB8107 Try.mixed (by kernel_rfl) ?_; simp [hnt, Try.ntmps107, Try.results107, anWB8107, dEdge, hlt, hx, hx', hlt2, hy, hy', q0, q1, q2, q4, q5, q6, q7, q8, q9]; try simp (disch := omega) only [wrap64_in]) | (refine DW_block ?_) | (focus (refine DW_if ?_ ?_ ?_; (· (simp [hnt, Try.ntmps107, Try.results107, anWB8107, dEdge, hlt, hx, hx', hlt2, hy, hy', q0, q1, q2, q4, q5, q6, q7, q8, q9]; done)); (try (rotate_left; (· (intro hc; (try simp [hnt, Try.ntmps107, Try.results107, anWB8107, dEdge, hlt, hx, hx', hlt2, hy, hy', q0, q1, q2, q4, q5, q6, q7, q8, q9] at hc); done)))))) | (refine DW_ret ?_; simp [hnt, Try.ntmps107, Try.results107, anWB8107, dEdge, hlt, hx, hx', hlt2, hy, hy', q0, q1, q2, q4, q5, q6, q7, q8, q9]) | (refine DW_exit ?_; simp [hnt, Try.ntmps107, Try.results107, anWB8107, dEdge, hlt, hx, hx', hlt2, hy, hy', q0, q1, q2, q4, q5, q6, q7, q8, q9]) | (refine DW_skip ?_; simp [hnt, Try.ntmps107, Try.results107, anWB8107, dEdge, hlt, hx, hx', hlt2, hy, hy', q0, q1, q2, q4, q5, q6, q7, q8, q9]) | (intro hc; (try simp [hnt, Try.ntmps107, Try.results107, anWB8107, dEdge, hlt, hx, hx', hlt2, hy, hy', q0, q1, q2, q4, q5, q6, q7, q8, q9] at hc); done) | (intro hc; (try simp [hnt, Try.ntmps107, Try.results107, anWB8107, dEdge, hlt, hx, hx', hlt2, hy, hy', q0, q1, q2, q4, q5, q6, q7, q8, q9] at hc); (first | (exfalso; omega) | skip)) | (refine callP_mk (b1) ?_; try simp [hnt, Try.ntmps107, Try.results107, anWB8107, dEdge, hlt, hx, hx', hlt2, hy, hy', q0, q1, q2, q4, q5, q6, q7, q8, q9]) | (refine callP_wk (b1) ?_ ?_; (· (simp; done)); try simp [hnt, Try.ntmps107, Try.results107, anWB8107, dEdge, hlt, hx, hx', hlt2, hy, hy', q0, q1, q2, q4, q5, q6, q7, q8, q9]) | (refine callP_mk (a1) ?_; try simp [hnt, Try.ntmps107, Try.results107, anWB8107, dEdge, hlt, hx, hx', hlt2, hy, hy', q0, q1, q2, q4, q5, q6, q7, q8, q9]) | (refine callP_wk (a1) ?_ ?_; (· (simp; done)); try simp [hnt, Try.ntmps107, Try.results107, anWB8107, dEdge, hlt, hx, hx', hlt2, hy, hy', q0, q1, q2, q4, q5, q6, q7, q8, q9]) | (refine callP_mk (a2) ?_; try simp [hnt, Try.ntmps107, Try.results107, anWB8107, dEdge, hlt, hx, hx', hlt2, hy, hy', q0, q1, q2, q4, q5, q6, q7, q8, q9]) | (refine callP_wk (a2) ?_ ?_; (· (simp; done)); try simp [hnt, Try.ntmps107, Try.results107, anWB8107, dEdge, hlt, hx, hx', hlt2, hy, hy', q0, q1, q2, q4, q5, q6, q7, q8, q9]) | (refine ⟨?_, ?_⟩; · omega) | omega | apply_assumption -exfalso -symm | (exfalso; omega)))
    · have hkk : k = es.length := by omega
      subst hkk
      rw [List.drop_length] at hw
      have hr : (match es.length with | 0 => risB eLess es | j + 1 => risB eLess (es.drop j)) = true := by
        cases he : es.length with
        | zero => rw [List.eq_nil_of_length_eq_zero he]; rfl
        | succ j => exact risB_end (by omega)
      rw [hr] at hw
      simp only [List.all_nil, Bool.and_true] at hw
      subst hw
      (repeat (first | (refine DW_seq fun K hK => ?_) | (refine DW_r anWB8107 Try.mixed (by kernel_rfl) ?_; simp [hnt, Try.ntmps107, Try.results107, anWB8107]; try simp (disch := omega) only [wrap64_in]) | (refine DW_block ?_) | (focus (refine DW_if ?_ ?_ ?_; (· (simp [hnt, Try.ntmps107, Try.results107, anWB8107]; done)); (try (rotate_left; (· (intro hc; (try simp [hnt, Try.ntmps107, Try.results107, anWB8107] at hc); done)))))) | (refine DW_ret ?_; simp [hnt, Try.ntmps107, Try.results107, anWB8107]) | (refine DW_exit ?_; simp [hnt, Try.ntmps107, Try.results107, anWB8107]) | (refine DW_skip ?_; simp [hnt, Try.ntmps107, Try.results107, anWB8107]) | (intro hc; (try simp [hnt, Try.ntmps107, Try.results107, anWB8107] at hc); done) | (intro hc; (try simp [hnt, Try.ntmps107, Try.results107, anWB8107] at hc); (first | (exfalso; omega) | skip)) | (refine ⟨?_, ?_⟩; · omega) | omega | apply_assumption -exfalso -symm | (exfalso; omega)))
end Go.Proofs.Ytihkcegelghcpaa
end

section
/- lists of texts, each once, rising. Plain Lean. -/



set_option linter.unusedSimpArgs false
set_option linter.unusedVariables false
namespace Go.Proofs.Ytihkcegelghcpaa
open Go Go.Dm

abbrev Str (l : List ByteArray) : Prop := l.Pairwise fun a b => sLess a b = true
theorem strict_ext : ∀ {a b : List ByteArray}, Str a → Str b → (∀ x, x ∈ a ↔ x ∈ b) → a = b
  | [], [], _, _, _ => rfl
  | [], y :: b, _, _, h => by have := (h y).2 List.mem_cons_self; simp at this
  | x :: a, [], _, _, h => by have := (h x).1 List.mem_cons_self; simp at this
  | x :: a, y :: b, ha, hb, h => by
    obtain ⟨ha1, ha2⟩ := List.pairwise_cons.1 ha
    obtain ⟨hb1, hb2⟩ := List.pairwise_cons.1 hb
    have hxy : x = y := by
      rcases List.mem_cons.1 ((h x).1 List.mem_cons_self) with h1 | h1
      · exact h1
      · rcases List.mem_cons.1 ((h y).2 List.mem_cons_self) with h2 | h2
        · exact h2.symm
        · have := sLess_asym (hb1 x h1); rw [ha1 y h2] at this; simp at this
    subst hxy
    rw [strict_ext ha2 hb2 fun z => ?_]
    constructor
    · intro hz
      rcases List.mem_cons.1 ((h z).1 (List.mem_cons_of_mem _ hz)) with h1 | h1
      · subst h1; have := ha1 z hz; rw [sLess_irr] at this; simp at this
      · exact h1
    · intro hz
      rcases List.mem_cons.1 ((h z).2 (List.mem_cons_of_mem _ hz)) with h1 | h1
      · subst h1; have := hb1 z hz; rw [sLess_irr] at this; simp at this
      · exact h1

theorem bl_lt : ∀ a b : List UInt8, Op.bytesLess a b = true ↔ a < b
  | [], [] => by simp [Op.bytesLess]
  | [], _ :: _ => by simp [Op.bytesLess]
  | _ :: _, [] => by simp [Op.bytesLess]
  | x :: a, y :: b => by
    rw [List.cons_lt_cons_iff]
    simp only [Op.bytesLess, Bool.or_eq_true, Bool.and_eq_true, decide_eq_true_eq, beq_iff_eq, bl_lt a b]
theorem ssort_mem (l : List ByteArray) (x : ByteArray) : x ∈ ssort l ↔ x ∈ l := by
  unfold ssort
  simp only [List.mem_map, (List.mergeSort_perm _ _).mem_iff]
  constructor
  · rintro ⟨y, ⟨z, hz, rfl⟩, rfl⟩; exact hz
  · intro h; exact ⟨_, ⟨x, h, rfl⟩, rfl⟩
theorem ssort_sorted (l : List ByteArray) : (ssort l).Pairwise fun a b => sLess b a = false := by
  unfold ssort
  rw [List.pairwise_map]
  have h := List.pairwise_mergeSort (le := fun x y : List UInt8 => decide (x ≤ y)) (by
    intro a b c h1 h2
    simp only [decide_eq_true_eq] at *
    exact List.le_trans h1 h2) (by
    intro a b
    simp only [Bool.or_eq_true, decide_eq_true_eq]
    exact List.le_total a b) (l.map fun s => s.data.toList)
  refine h.imp ?_
  intro a b hab
  simp only [decide_eq_true_eq] at hab
  have : ¬ Op.bytesLess b a = true := fun h => by
    rw [bl_lt] at h
    exact (List.not_lt.2 hab) h
  simpa [sLess] using this
def eqT (a b : ByteArray) : Bool := a == b
theorem compGoS_ok : ∀ {l : List ByteArray} {p : ByteArray}, (p :: l).Pairwise (fun a b => sLess b a = false) → Str (compGo eqT p l) ∧ (∀ x ∈ compGo eqT p l, sLess p x = true) ∧ ∀ x, (x = p ∨ x ∈ compGo eqT p l) ↔ (x = p ∨ x ∈ l)
  | [], p, _ => ⟨.nil, by simp [compGo], by simp [compGo]⟩
  | y :: l, p, h => by
    obtain ⟨h1, h2⟩ := List.pairwise_cons.1 h
    obtain ⟨g1, g2, g3⟩ := compGoS_ok h2
    unfold compGo
    by_cases hyp : y = p
    · subst hyp
      rw [if_pos (by simp [eqT])]
      refine ⟨g1, g2, fun x => ?_⟩
      rw [g3 x]
      simp only [List.mem_cons]
      constructor
      · rintro (h | h)
        · exact .inl h
        · exact .inr (.inr h)
      · rintro (h | h | h)
        · exact .inl h
        · exact .inl h
        · exact .inr h
    · rw [if_neg (by simp [eqT, hyp])]
      have hpy : sLess p y = true := by
        cases hc : sLess p y
        · exact absurd (sLess_tri hc (h1 y List.mem_cons_self)).symm hyp
        · rfl
      refine ⟨List.pairwise_cons.2 ⟨g2, g1⟩, fun x hx => ?_, fun x => ?_⟩
      · rcases List.mem_cons.1 hx with rfl | hx
        · exact hpy
        · exact sLess_trans hpy (g2 x hx)
      · simp only [List.mem_cons]
        rw [g3 x]
/-- each text once, rising -/
def uniqS (l : List ByteArray) : List ByteArray := compL eqT (ssort l)
theorem uniqS_ok (l : List ByteArray) : Str (uniqS l) ∧ ∀ x, x ∈ uniqS l ↔ x ∈ l := by
  unfold uniqS
  have h := ssort_sorted l
  have hm := ssort_mem l
  cases hs : ssort l with
  | nil =>
    rw [hs] at hm
    exact ⟨.nil, by simpa [compL] using hm⟩
  | cons p t =>
    rw [hs] at h hm
    obtain ⟨g1, g2, g3⟩ := compGoS_ok h
    refine ⟨List.pairwise_cons.2 ⟨g2, g1⟩, fun x => ?_⟩
    simp only [compL, List.mem_cons]
    rw [g3 x, ← hm x]
    simp
theorem compGoS_len {α : Type} (e : α → α → Bool) : ∀ (l : List α) (p : α), (compGo e p l).length ≤ l.length
  | [], _ => by simp [compGo]
  | y :: l, p => by
    unfold compGo
    split
    · have := compGoS_len e l y; simp; omega
    · have := compGoS_len e l y; simp; omega
theorem uniqS_len (l : List ByteArray) : (uniqS l).length ≤ l.length := by
  unfold uniqS
  have h := ssort_len l
  cases hs : ssort l with
  | nil => simp [compL]
  | cons p t =>
    rw [hs] at h
    have := compGoS_len eqT t p
    simp only [compL, List.length_cons] at h ⊢
    omega
theorem uniq_of {l a : List ByteArray} (ha : Str a) (h : ∀ x, x ∈ a ↔ x ∈ l) : a = uniqS l := by
  obtain ⟨g1, g2⟩ := uniqS_ok l
  exact strict_ext ha g1 fun x => by rw [h x, g2 x]

/-- two rising lists as one -/
def mergeL : List ByteArray → List ByteArray → List ByteArray
  | [], [] => []
  | [], y :: b => y :: mergeL [] b
  | x :: a, [] => x :: mergeL a []
  | x :: a, y :: b => if sLess x y then x :: mergeL a (y :: b) else if x == y then y :: mergeL a b else y :: mergeL (x :: a) b
termination_by a b => a.length + b.length
theorem mergeL_mem : ∀ (a b : List ByteArray) (z : ByteArray), z ∈ mergeL a b ↔ z ∈ a ∨ z ∈ b
  | [], [], z => by simp [mergeL]
  | [], y :: b, z => by simp [mergeL, mergeL_mem [] b z]
  | x :: a, [], z => by simp [mergeL, mergeL_mem a [] z]
  | x :: a, y :: b, z => by
    unfold mergeL
    split
    · simp only [List.mem_cons, mergeL_mem a (y :: b) z]
      constructor
      · rintro (h | h | h | h) <;> simp [h]
      · rintro ((h | h) | h | h) <;> simp [h]
    · split
      · rename_i h1 h2
        have h2 : x = y := by simpa using h2
        subst h2
        simp only [List.mem_cons, mergeL_mem a b z]
        constructor
        · rintro (h | h | h) <;> simp [h]
        · rintro ((h | h) | h | h) <;> simp [h]
      · simp only [List.mem_cons, mergeL_mem (x :: a) b z]
        constructor
        · rintro (h | (h | h) | h) <;> simp [h]
        · rintro ((h | h) | h | h) <;> simp [h]
termination_by a b => a.length + b.length
theorem mergeL_str : ∀ (a b : List ByteArray), Str a → Str b → Str (mergeL a b)
  | [], [], _, _ => by simp [mergeL]
  | [], y :: b, ha, hb => by
    obtain ⟨h1, h2⟩ := List.pairwise_cons.1 hb
    unfold mergeL
    refine List.pairwise_cons.2 ⟨fun z hz => ?_, mergeL_str [] b ha h2⟩
    rw [mergeL_mem] at hz
    exact h1 z (by simpa using hz)
  | x :: a, [], ha, hb => by
    obtain ⟨h1, h2⟩ := List.pairwise_cons.1 ha
    unfold mergeL
    refine List.pairwise_cons.2 ⟨fun z hz => ?_, mergeL_str a [] h2 hb⟩
    rw [mergeL_mem] at hz
    exact h1 z (by simpa using hz)
  | x :: a, y :: b, ha, hb => by
    obtain ⟨h1, h2⟩ := List.pairwise_cons.1 ha
    obtain ⟨h3, h4⟩ := List.pairwise_cons.1 hb
    unfold mergeL
    split
    · rename_i hlt
      refine List.pairwise_cons.2 ⟨fun z hz => ?_, mergeL_str a (y :: b) h2 hb⟩
      rw [mergeL_mem] at hz
      rcases hz with hz | hz
      · exact h1 z hz
      · rcases List.mem_cons.1 hz with rfl | hz
        · exact hlt
        · exact sLess_trans hlt (h3 z hz)
    · rename_i hlt
      split
      · rename_i he
        have he : x = y := by simpa using he
        subst he
        refine List.pairwise_cons.2 ⟨fun z hz => ?_, mergeL_str a b h2 h4⟩
        rw [mergeL_mem] at hz
        rcases hz with hz | hz
        · exact h1 z hz
        · exact h3 z hz
      · rename_i he
        have hyx : sLess y x = true := by
          cases hc : sLess y x
          · exact absurd (by simpa using sLess_tri (by simpa using hlt) hc) he
          · rfl
        refine List.pairwise_cons.2 ⟨fun z hz => ?_, mergeL_str (x :: a) b ha h4⟩
        rw [mergeL_mem] at hz
        rcases hz with hz | hz
        · rcases List.mem_cons.1 hz with rfl | hz
          · exact hyx
          · exact sLess_trans hyx (h1 z hz)
        · exact h3 z hz
termination_by a b => a.length + b.length
theorem merge_uniq (a b : List ByteArray) : mergeL (uniqS a) (uniqS b) = uniqS (a ++ b) := by
  obtain ⟨a1, a2⟩ := uniqS_ok a
  obtain ⟨b1, b2⟩ := uniqS_ok b
  exact uniq_of (mergeL_str _ _ a1 b1) fun x => by rw [mergeL_mem, a2, b2, List.mem_append]
theorem uniq_small {l : List ByteArray} (h : l.length < 2) : uniqS l = l := by
  refine (uniq_of ?_ fun x => Iff.rfl).symm
  match l, h with
  | [], _ => exact .nil
  | [a], _ => exact List.pairwise_singleton _ _
end Go.Proofs.Ytihkcegelghcpaa
end

section
/- graphs by definition: texts in order, lone nodes, the text -/


set_option linter.unusedSimpArgs false
set_option linter.unusedVariables false
namespace Go.Proofs.Ytihkcegelghcpaa
open Go Go.Dm
attribute [local irreducible] DW callP callS
set_option maxRecDepth 100000

theorem drop_cons {α : Type} {l : List α} {k : Nat} {x : α} (hx : l[k]? = some x) : l.drop k = x :: l.drop (k + 1) := by
  obtain ⟨h1, rfl⟩ := List.getElem?_eq_some_iff.1 hx
  exact List.drop_eq_getElem_cons h1

def anWB9195 : Ann := ⟨[], []⟩
set_option maxHeartbeats 2000000 in
theorem merge_pure (a b : List ByteArray) (hsz : (a.length + b.length) * 16 ≤ 150000000000000) : DPure Try.prog 195 [dStrs a, dStrs b] (dStrs (mergeL a b)) := by
  refine DPure_introF [5] (fn := Try.f195) Try.func195 rfl Try.call195 (by simp [Try.ntmps195]) (by simp [mx]) ?_
  intro hwf B hnt
  clear hwf
  simp only [argS]
  obtain ⟨R, hR⟩ : ∃ R, R = mergeL a b := ⟨_, rfl⟩
  rw [← hR]
  (repeat (first | (refine DW_seq fun K hK => ?_) | (refine DW_r anWB9195 Try.mixed (by kernel_rfl) ?_; simp [hnt, Try.ntmps195, Try.results195, anWB9195]; try simp (disch := omega) only [wrap64_in]) | (refine DW_block ?_) | (focus (refine DW_if ?_ ?_ ?_; (· (simp [hnt, Try.ntmps195, Try.results195, anWB9195]; done)); (try (rotate_left; (· (intro hc; (try simp [hnt, Try.ntmps195, Try.results195, anWB9195] at hc); done)))))) | (refine DW_ret ?_; simp [hnt, Try.ntmps195, Try.results195, anWB9195]) | (refine DW_exit ?_; simp [hnt, Try.ntmps195, Try.results195, anWB9195]) | (refine DW_skip ?_; simp [hnt, Try.ntmps195, Try.results195, anWB9195]) | (intro hc; (try simp [hnt, Try.ntmps195, Try.results195, anWB9195] at hc); done) | (intro hc; (try simp [hnt, Try.ntmps195, Try.results195, anWB9195] at hc); (first | (exfalso; omega) | skip)) | (refine ⟨?_, ?_⟩; · omega) | omega | apply_assumption -exfalso -symm | (exfalso; omega)))
  refine DW_adoptS 5 5 9 1 16 (by simp [hnt, Try.ntmps195]) (fun n5 => ?_)
  refine DW_loop (X := {x : Nat × Nat × List ByteArray // x.1 ≤ a.length ∧ x.2.1 ≤ b.length ∧ x.2.2 ++ mergeL (a.drop x.1) (b.drop x.2.1) = R ∧ x.2.2.length ≤ x.1 + x.2.1})
    (fun x => ⟨[(0, dStrs a), (1, dStrs b), (5, .osl 5 1), (6, .int .i64 x.1.1), (7, .int .i64 x.1.2.1)], [⟨5, 1, .row 9 1 16 (x.1.2.2.map dStr)⟩]⟩) (fun x => (a.length - x.1.1) + (b.length - x.1.2.1)) ⟨(0, 0, []), by simp [hR]⟩ (Sub.lit (by simp)) ?_
  rintro ⟨⟨i, j, out⟩, hi, hj, hw, hl⟩
  simp only at hi hj hw hl ⊢
  clear hR
  have z1 : (i < a.length ∨ j < b.length) → (out.length + 1) * 16 ≤ 150000000000000 := fun h => Nat.le_trans (Nat.mul_le_mul_right 16 (by omega)) hsz
  have z2 : (i < a.length ∨ j < b.length) → out.length + 1 ≤ 9223372036854775807 := fun h => by have := z1 h; omega
  by_cases h1 : i < a.length
  · have z1 := z1 (.inl h1)
    have z2 := z2 (.inl h1)
    obtain ⟨x, hx, hx', _⟩ := at_lt' h1
    rw [drop_cons hx] at hw
    by_cases h2 : j < b.length
    · obtain ⟨y, hy, hy', _⟩ := at_lt' h2
      rw [drop_cons hy] at hw
      have e1 : ((j : Int) == b.length) = false := by simp; omega
      unfold mergeL at hw
      cases hc : sLess x y
      · have hc2 : Op.bytesLess x.data.toList y.data.toList = false := hc
        rw [hc] at hw
        simp only [Bool.false_eq_true, if_false] at hw
        cases he : x == y
        · rw [he] at hw
          simp only [Bool.false_eq_true, if_false] at hw
          (repeat (first | (refine DW_seq fun K hK => ?_) | (refine DW_r anWB9195 Try.mixed (by kernel_rfl) ?_; simp [hnt, Try.ntmps195, Try.results195, anWB9195, dStr, h1, h2, hx, hx', hy, hy', e1, hc2, he, z1, z2]; try simp (disch := omega) only [wrap64_in]) | (refine DW_block ?_) | (focus (refine DW_if ?_ ?_ ?_; (· (simp [hnt, Try.ntmps195, Try.results195, anWB9195, dStr, h1, h2, hx, hx', hy, hy', e1, hc2, he, z1, z2]; done)); (try (rotate_left; (· (intro hc; (try simp [hnt, Try.ntmps195, Try.results195, anWB9195, dStr, h1, h2, hx, hx', hy, hy', e1, hc2, he, z1, z2] at hc); done)))))) | (refine DW_ret ?_; simp [hnt, Try.ntmps195, Try.results195, anWB9195, dStr, h1, h2, hx, hx', hy, hy', e1, hc2, he, z1, z2]) | (refine DW_exit ?_; simp [hnt, Try.ntmps195, Try.results195, anWB9195, dStr, h1, h2, hx, hx', hy, hy', e1, hc2, he, z1, z2]) | (refine DW_skip ?_; simp [hnt, Try.ntmps195, Try.results195, anWB9195, dStr, h1, h2, hx, hx', hy, hy', e1, hc2, he, z1, z2]) | (intro hc; (try simp [hnt, Try.ntmps195, Try.results195, anWB9195, dStr, h1, h2, hx, hx', hy, hy', e1, hc2, he, z1, z2] at hc); done) | (intro hc; (try simp [hnt, Try.ntmps195, Try.results195, anWB9195, dStr, h1, h2, hx, hx', hy, hy', e1, hc2, he, z1, z2] at hc); (first | (exfalso; omega) | skip)) | (refine ⟨?_, ?_⟩; · omega) | omega | apply_assumption -exfalso -symm | (exfalso; omega)))
          refine Again.mk ⟨(i, j + 1, out ++ [y]), show i ≤ a.length ∧ j + 1 ≤ b.length ∧ (out ++ [y]) ++ mergeL (a.drop i) (b.drop (j + 1)) = R ∧ (out ++ [y]).length ≤ i + (j + 1) from ⟨by omega, by omega, by rw [drop_cons hx, List.append_assoc]; exact hw, by simp; omega⟩⟩ (Sub.lit (by simp [dStr])) (by simp; omega)
          (repeat (first | (refine DW_seq fun K hK => ?_) | (refine DW_r anWB9195 Try.mixed (by kernel_rfl) ?_; simp [hnt, Try.ntmps195, Try.results195, anWB9195]; try simp (disch := omega) only [wrap64_in]) | (refine DW_block ?_) | (focus (refine DW_if ?_ ?_ ?_; (· (simp [hnt, Try.ntmps195, Try.results195, anWB9195]; done)); (try (rotate_left; (· (intro hc; (try simp [hnt, Try.ntmps195, Try.results195, anWB9195] at hc); done)))))) | (refine DW_ret ?_; simp [hnt, Try.ntmps195, Try.results195, anWB9195]) | (refine DW_exit ?_; simp [hnt, Try.ntmps195, Try.results195, anWB9195]) | (refine DW_skip ?_; simp [hnt, Try.ntmps195, Try.results195, anWB9195]) | (intro hc; (try simp [hnt, Try.ntmps195, Try.results195, anWB9195] at hc); done) | (intro hc; (try simp [hnt, Try.ntmps195, Try.results195, anWB9195] at hc); (first | (exfalso; omega) | skip)) | (refine ⟨?_, ?_⟩; · omega) | omega | apply_assumption -exfalso -symm | (exfalso; omega)))
        · rw [he] at hw
          simp only [if_true] at hw
          (repeat (first | (refine DW_seq fun K hK => ?_) | (refine DW_r anWB9195 Try.mixed (by kernel_rfl) ?_; simp [hnt, Try.ntmps195, Try.results195, anWB9195, dStr, h1, h2, hx, hx', hy, hy', e1, hc2, he, z1, z2]; try simp (disch := omega) only [wrap64_in]) | (refine DW_block ?_) | (focus (refine DW_if ?_ ?_ ?_; (· (simp [hnt, Try.ntmps195, Try.results195, anWB9195, dStr, h1, h2, hx, hx', hy, hy', e1, hc2, he, z1, z2]; done)); (try (rotate_left; (· (intro hc; (try simp [hnt, Try.ntmps195, Try.results195, anWB9195, dStr, h1, h2, hx, hx', hy, hy', e1, hc2, he, z1, z2] at hc); done)))))) | (refine DW_ret ?_; simp [hnt, Try.ntmps195, Try.results195, anWB9195, dStr, h1, h2, hx, hx', hy, hy', e1, hc2, he, z1, z2]) | (refine DW_exit ?_; simp [hnt, Try.ntmps195, Try.results195, anWB9195, dStr, h1, h2, hx, hx', hy, hy', e1, hc2, he, z1, z2]) | (refine DW_skip ?_; simp [hnt, Try.ntmps195, Try.results195, anWB9195, dStr, h1, h2, hx, hx', hy, hy', e1, hc2, he, z1, z2]) | (intro hc; (try simp [hnt, Try.ntmps195, Try.results195, anWB9195, dStr, h1, h2, hx, hx', hy, hy', e1, hc2, he, z1, z2] at hc); done) | (intro hc; (try simp [hnt, Try.ntmps195, Try.results195, anWB9195, dStr, h1, h2, hx, hx', hy, hy', e1, hc2, he, z1, z2] at hc); (first | (exfalso; omega) | skip)) | (refine ⟨?_, ?_⟩; · omega) | omega | apply_assumption -exfalso -symm | (exfalso; omega)))
          refine Again.mk ⟨(i + 1, j + 1, out ++ [y]), show i + 1 ≤ a.length ∧ j + 1 ≤ b.length ∧ (out ++ [y]) ++ mergeL (a.drop (i + 1)) (b.drop (j + 1)) = R ∧ (out ++ [y]).length ≤ (i + 1) + (j + 1) from ⟨by omega, by omega, by rw [List.append_assoc]; exact hw, by simp; omega⟩⟩ (Sub.lit (by simp [dStr])) (by simp; omega)
          (repeat (first | (refine DW_seq fun K hK => ?_) | (refine DW_r anWB9195 Try.mixed (by kernel_rfl) ?_; simp [hnt, Try.ntmps195, Try.results195, anWB9195]; try simp (disch := omega) only [wrap64_in]) | (refine DW_block ?_) | (focus (refine DW_if ?_ ?_ ?_; (· (simp [hnt, Try.ntmps195, Try.results195, anWB9195]; done)); (try (rotate_left; (· (intro hc; (try simp [hnt, Try.ntmps195, Try.results195, anWB9195] at hc); done)))))) | (refine DW_ret ?_; simp [hnt, Try.ntmps195, Try.results195, anWB9195]) | (refine DW_exit ?_; simp [hnt, Try.ntmps195, Try.results195, anWB9195]) | (refine DW_skip ?_; simp [hnt, Try.ntmps195, Try.results195, anWB9195]) | (intro hc; (try simp [hnt, Try.ntmps195, Try.results195, anWB9195] at hc); done) | (intro hc; (try simp [hnt, Try.ntmps195, Try.results195, anWB9195] at hc); (first | (exfalso; omega) | skip)) | (refine ⟨?_, ?_⟩; · omega) | omega | apply_assumption -exfalso -symm | (exfalso; omega)))
      · have hc2 : Op.bytesLess x.data.toList y.data.toList = true := hc
        rw [hc] at hw
        simp only [if_true] at hw
        (repeat (first | (refine DW_seq fun K hK => ?_) | (refine DW_r anWB9195 Try.mixed (by kernel_rfl) ?_; simp [hnt, Try.ntmps195, Try.results195, anWB9195, dStr, h1, h2, hx, hx', hy, hy', e1, hc2, z1, z2]; try simp (disch := omega) only [wrap64_in]) | (refine DW_block ?_) | (focus (refine DW_if ?_ ?_ ?_; (· (simp [hnt, Try.ntmps195, Try.results195, anWB9195, dStr, h1, h2, hx, hx', hy, hy', e1, hc2, z1, z2]; done)); (try (rotate_left; (· (intro hc; (try simp [hnt, Try.ntmps195, Try.results195, anWB9195, dStr, h1, h2, hx, hx', hy, hy', e1, hc2, z1, z2] at hc); done)))))) | (refine DW_ret ?_; simp [hnt, Try.ntmps195, Try.results195, anWB9195, dStr, h1, h2, hx, hx', hy, hy', e1, hc2, z1, z2]) | (refine DW_exit ?_; simp [hnt, Try.ntmps195, Try.results195, anWB9195, dStr, h1, h2, hx, hx', hy, hy', e1, hc2, z1, z2]) | (refine DW_skip ?_; simp [hnt, Try.ntmps195, Try.results195, anWB9195, dStr, h1, h2, hx, hx', hy, hy', e1, hc2, z1, z2]) | (intro hc; (try simp [hnt, Try.ntmps195, Try.results195, anWB9195, dStr, h1, h2, hx, hx', hy, hy', e1, hc2, z1, z2] at hc); done) | (intro hc; (try simp [hnt, Try.ntmps195, Try.results195, anWB9195, dStr, h1, h2, hx, hx', hy, hy', e1, hc2, z1, z2] at hc); (first | (exfalso; omega) | skip)) | (refine ⟨?_, ?_⟩; · omega) | omega | apply_assumption -exfalso -symm | (exfalso; omega)))
        refine Again.mk ⟨(i + 1, j, out ++ [x]), show i + 1 ≤ a.length ∧ j ≤ b.length ∧ (out ++ [x]) ++ mergeL (a.drop (i + 1)) (b.drop j) = R ∧ (out ++ [x]).length ≤ (i + 1) + j from ⟨by omega, by omega, by rw [drop_cons hy, List.append_assoc]; exact hw, by simp; omega⟩⟩ (Sub.lit (by simp [dStr])) (by simp; omega)
        (repeat (first | (refine DW_seq fun K hK => ?_) | (refine DW_r anWB9195 Try.mixed (by kernel_rfl) ?_; simp [hnt, Try.ntmps195, Try.results195, anWB9195]; try simp (disch := omega) only [wrap64_in]) | (refine DW_block ?_) | (focus (refine DW_if ?_ ?_ ?_; (· (simp [hnt, Try.ntmps195, Try.results195, anWB9195]; done)); (try (rotate_left; (· (intro hc; (try simp [hnt, Try.ntmps195, Try.results195, anWB9195] at hc); done)))))) | (refine DW_ret ?_; simp [hnt, Try.ntmps195, Try.results195, anWB9195]) | (refine DW_exit ?_; simp [hnt, Try.ntmps195, Try.results195, anWB9195]) | (refine DW_skip ?_; simp [hnt, Try.ntmps195, Try.results195, anWB9195]) | (intro hc; (try simp [hnt, Try.ntmps195, Try.results195, anWB9195] at hc); done) | (intro hc; (try simp [hnt, Try.ntmps195, Try.results195, anWB9195] at hc); (first | (exfalso; omega) | skip)) | (refine ⟨?_, ?_⟩; · omega) | omega | apply_assumption -exfalso -symm | (exfalso; omega)))
    · have hjj : j = b.length := by omega
      subst hjj
      rw [List.drop_length] at hw
      unfold mergeL at hw
      (repeat (first | (refine DW_seq fun K hK => ?_) | (refine DW_r anWB9195 Try.mixed (by kernel_rfl) ?_; simp [hnt, Try.ntmps195, Try.results195, anWB9195, dStr, h1, h2, hx, hx', z1, z2]; try simp (disch := omega) only [wrap64_in]) | (refine DW_block ?_) | (focus (refine DW_if ?_ ?_ ?_; (· (simp [hnt, Try.ntmps195, Try.results195, anWB9195, dStr, h1, h2, hx, hx', z1, z2]; done)); (try (rotate_left; (· (intro hc; (try simp [hnt, Try.ntmps195, Try.results195, anWB9195, dStr, h1, h2, hx, hx', z1, z2] at hc); done)))))) | (refine DW_ret ?_; simp [hnt, Try.ntmps195, Try.results195, anWB9195, dStr, h1, h2, hx, hx', z1, z2]) | (refine DW_exit ?_; simp [hnt, Try.ntmps195, Try.results195, anWB9195, dStr, h1, h2, hx, hx', z1, z2]) | (refine DW_skip ?_; simp [hnt, Try.ntmps195, Try.results195, anWB9195, dStr, h1, h2, hx, hx', z1, z2]) | (intro hc; (try simp [hnt, Try.ntmps195, Try.results195, anWB9195, dStr, h1, h2, hx, hx', z1, z2] at hc); done) | (intro hc; (try simp [hnt, Try.ntmps195, Try.results195, anWB9195, dStr, h1, h2, hx, hx', z1, z2] at hc); (first | (exfalso; omega) | skip)) | (refine ⟨?_, ?_⟩; · omega) | omega | apply_assumption -exfalso -symm | (exfalso; omega)))
      refine Again.mk ⟨(i + 1, b.length, out ++ [x]), show i + 1 ≤ a.length ∧ b.length ≤ b.length ∧ (out ++ [x]) ++ mergeL (a.drop (i + 1)) (b.drop b.length) = R ∧ (out ++ [x]).length ≤ (i + 1) + b.length from ⟨by omega, by omega, by rw [List.drop_length, List.append_assoc]; exact hw, by simp; omega⟩⟩ (Sub.lit (by simp [dStr])) (by simp; omega)
      (repeat (first | (refine DW_seq fun K hK => ?_) | (refine DW_r anWB9195 Try.mixed (by kernel_rfl) ?_; simp [hnt, Try.ntmps195, Try.results195, anWB9195]; try simp (disch := omega) only [wrap64_in]) | (refine DW_block ?_) | (focus (refine DW_if ?_ ?_ ?_; (· (simp [hnt, Try.ntmps195, Try.results195, anWB9195]; done)); (try (rotate_left; (· (intro hc; (try simp [hnt, Try.ntmps195, Try.results195, anWB9195] at hc); done)))))) | (refine DW_ret ?_; simp [hnt, Try.ntmps195, Try.results195, anWB9195]) | (refine DW_exit ?_; simp [hnt, Try.ntmps195, Try.results195, anWB9195]) | (refine DW_skip ?_; simp [hnt, Try.ntmps195, Try.results195, anWB9195]) | (intro hc; (try simp [hnt, Try.ntmps195, Try.results195, anWB9195] at hc); done) | (intro hc; (try simp [hnt, Try.ntmps195, Try.results195, anWB9195] at hc); (first | (exfalso; omega) | skip)) | (refine ⟨?_, ?_⟩; · omega) | omega | apply_assumption -exfalso -symm | (exfalso; omega)))
  · have hii : i = a.length := by omega
    subst hii
    rw [List.drop_length] at hw
    by_cases h2 : j < b.length
    · have z1 := z1 (.inr h2)
      have z2 := z2 (.inr h2)
      obtain ⟨y, hy, hy', _⟩ := at_lt' h2
      rw [drop_cons hy] at hw
      unfold mergeL at hw
      have e1 : ((j : Int) == b.length) = false := by simp; omega
      (repeat (first | (refine DW_seq fun K hK => ?_) | (refine DW_r anWB9195 Try.mixed (by kernel_rfl) ?_; simp [hnt, Try.ntmps195, Try.results195, anWB9195, dStr, h1, h2, hy, hy', e1, z1, z2]; try simp (disch := omega) only [wrap64_in]) | (refine DW_block ?_) | (focus (refine DW_if ?_ ?_ ?_; (· (simp [hnt, Try.ntmps195, Try.results195, anWB9195, dStr, h1, h2, hy, hy', e1, z1, z2]; done)); (try (rotate_left; (· (intro hc; (try simp [hnt, Try.ntmps195, Try.results195, anWB9195, dStr, h1, h2, hy, hy', e1, z1, z2] at hc); done)))))) | (refine DW_ret ?_; simp [hnt, Try.ntmps195, Try.results195, anWB9195, dStr, h1, h2, hy, hy', e1, z1, z2]) | (refine DW_exit ?_; simp [hnt, Try.ntmps195, Try.results195, anWB9195, dStr, h1, h2, hy, hy', e1, z1, z2]) | (refine DW_skip ?_; simp [hnt, Try.ntmps195, Try.results195, anWB9195, dStr, h1, h2, hy, hy', e1, z1, z2]) | (intro hc; (try simp [hnt, Try.ntmps195, Try.results195, anWB9195, dStr, h1, h2, hy, hy', e1, z1, z2] at hc); done) | (intro hc; (try simp [hnt, Try.ntmps195, Try.results195, anWB9195, dStr, h1, h2, hy, hy', e1, z1, z2] at hc); (first | (exfalso; omega) | skip)) | (refine ⟨?_, ?_⟩; · omega) | omega | apply_assumption -exfalso -symm | (exfalso; omega)))
      refine Again.mk ⟨(a.length, j + 1, out ++ [y]), show a.length ≤ a.length ∧ j + 1 ≤ b.length ∧ (out ++ [y]) ++ mergeL (a.drop a.length) (b.drop (j + 1)) = R ∧ (out ++ [y]).length ≤ a.length + (j + 1) from ⟨by omega, by omega, by rw [List.drop_length, List.append_assoc]; exact hw, by simp; omega⟩⟩ (Sub.lit (by simp [dStr])) (by simp; omega)
      (repeat (first | (refine DW_seq fun K hK => ?_) | (refine DW_r anWB9195 Try.mixed (by kernel_rfl) ?_; simp [hnt, Try.ntmps195, Try.results195, anWB9195]; try simp (disch := omega) only [wrap64_in]) | (refine DW_block ?_) | (focus (refine DW_if ?_ ?_ ?_; (· (simp [hnt, Try.ntmps195, Try.results195, anWB9195]; done)); (try (rotate_left; (· (intro hc; (try simp [hnt, Try.ntmps195, Try.results195, anWB9195] at hc); done)))))) | (refine DW_ret ?_; simp [hnt, Try.ntmps195, Try.results195, anWB9195]) | (refine DW_exit ?_; simp [hnt, Try.ntmps195, Try.results195, anWB9195]) | (refine DW_skip ?_; simp [hnt, Try.ntmps195, Try.results195, anWB9195]) | (intro hc; (try simp [hnt, Try.ntmps195, Try.results195, anWB9195] at hc); done) | (intro hc; (try simp [hnt, Try.ntmps195, Try.results195, anWB9195] at hc); (first | (exfalso; omega) | skip)) | (refine ⟨?_, ?_⟩; · omega) | omega | apply_assumption -exfalso -symm | (exfalso; omega)))
    · have hjj : j = b.length := by omega
      subst hjj
      rw [List.drop_length] at hw
      have hm : mergeL [] [] = [] := by unfold mergeL; rfl
      rw [hm, List.append_nil] at hw
      subst hw
      (repeat (first | (refine DW_seq fun K hK => ?_) | (refine DW_r anWB9195 Try.mixed (by kernel_rfl) ?_; simp [hnt, Try.ntmps195, Try.results195, anWB9195, h1, h2]; try simp (disch := omega) only [wrap64_in]) | (refine DW_block ?_) | (focus (refine DW_if ?_ ?_ ?_; (· (simp [hnt, Try.ntmps195, Try.results195, anWB9195, h1, h2]; done)); (try (rotate_left; (· (intro hc; (try simp [hnt, Try.ntmps195, Try.results195, anWB9195, h1, h2] at hc); done)))))) | (refine DW_ret ?_; simp [hnt, Try.ntmps195, Try.results195, anWB9195, h1, h2]) | (refine DW_exit ?_; simp [hnt, Try.ntmps195, Try.results195, anWB9195, h1, h2]) | (refine DW_skip ?_; simp [hnt, Try.ntmps195, Try.results195, anWB9195, h1, h2]) | (intro hc; (try simp [hnt, Try.ntmps195, Try.results195, anWB9195, h1, h2] at hc); done) | (intro hc; (try simp [hnt, Try.ntmps195, Try.results195, anWB9195, h1, h2] at hc); (first | (exfalso; omega) | skip)) | (refine ⟨?_, ?_⟩; · omega) | omega | apply_assumption -exfalso -symm | (exfalso; omega)))

def anWB9181 : Ann := ⟨[6], []⟩
set_option maxHeartbeats 1000000 in
theorem texts_pure : ∀ (n : Nat) (l : List ByteArray), l.length = n → l.length * 16 ≤ 150000000000000 → DPure Try.prog 181 [dStrs l] (dStrs (uniqS l)) := by
  intro n
  induction n using Nat.strongRecOn with
  | ind n ih =>
  intro l hn hsz
  by_cases h2 : l.length < 2
  · refine DPure_introF [6] (fn := Try.f181) Try.func181 rfl Try.call181 (by simp [Try.ntmps181]) (by simp [mx]) ?_
    intro hwf B hnt
    clear hwf
    simp only [argS]
    rw [uniq_small h2]
    have h2' : (l.length : Int) < 2 := by omega
    have hl9 : l.length ≤ 9223372036854775807 := by omega
    (repeat (first | (refine DW_seq fun K hK => ?_) | (refine DW_r anWB9181 Try.mixed (by kernel_rfl) ?_; simp [hnt, Try.ntmps181, Try.results181, anWB9181, h2, h2', hsz, hl9]; try simp (disch := omega) only [wrap64_in]) | (refine DW_block ?_) | (focus (refine DW_if ?_ ?_ ?_; (· (simp [hnt, Try.ntmps181, Try.results181, anWB9181, h2, h2', hsz, hl9]; done)); (try (rotate_left; (· (intro hc; (try simp [hnt, Try.ntmps181, Try.results181, anWB9181, h2, h2', hsz, hl9] at hc); done)))))) | (refine DW_ret ?_; simp [hnt, Try.ntmps181, Try.results181, anWB9181, h2, h2', hsz, hl9]) | (refine DW_exit ?_; simp [hnt, Try.ntmps181, Try.results181, anWB9181, h2, h2', hsz, hl9]) | (refine DW_skip ?_; simp [hnt, Try.ntmps181, Try.results181, anWB9181, h2, h2', hsz, hl9]) | (intro hc; (try simp [hnt, Try.ntmps181, Try.results181, anWB9181, h2, h2', hsz, hl9] at hc); done) | (intro hc; (try simp [hnt, Try.ntmps181, Try.results181, anWB9181, h2, h2', hsz, hl9] at hc); (first | (exfalso; omega) | skip)) | (refine ⟨?_, ?_⟩; · omega) | omega | apply_assumption -exfalso -symm | (exfalso; omega)))
  · refine DPure_introF [] (fn := Try.f181) Try.func181 rfl Try.call181 (by simp [Try.ntmps181]) (by simp [mx]) ?_
    intro hwf B hnt
    clear hwf
    simp only [argS]
    obtain ⟨h, hh⟩ : ∃ h, h = l.length / 2 := ⟨_, rfl⟩
    have i1 := ih (l.take h).length (by rw [List.length_take]; omega) (l.take h) rfl (by rw [List.length_take]; omega)
    have i2 := ih (l.drop h).length (by rw [List.length_drop]; omega) (l.drop h) rfl (by rw [List.length_drop]; omega)
    have u1 := uniqS_len (l.take h)
    have u2 := uniqS_len (l.drop h)
    rw [List.length_take] at u1
    rw [List.length_drop] at u2
    have i3 := merge_pure (uniqS (l.take h)) (uniqS (l.drop h)) (Nat.le_trans (Nat.mul_le_mul_right 16 (by omega)) hsz)
    rw [merge_uniq, List.take_append_drop] at i3
    have h2' : ¬ (l.length : Int) < 2 := by omega
    have w1 : ((l.length : Int)).tdiv 2 = h := by rw [Int.tdiv_eq_ediv_of_nonneg (by omega), hh]; omega
    have w2 : IntKind.i64.wrap (h : Int) = h := wrap64_in (by omega) (by omega)
    have w3 : (h : Int) ≤ l.length := by omega
    have w4 : h ≤ l.length := by omega
    rw [dStrs, List.map_take] at i1
    have t1 : (l.map dStr).take (l.length - h + h) = l.map dStr := List.take_of_length_le (by simp; omega)
    have t2 : List.take (l.length - h) (List.drop h (l.map dStr)) = List.drop h (l.map dStr) := List.take_of_length_le (by simp)
    rw [dStrs, List.map_drop] at i2
    (repeat (first | (refine DW_seq fun K hK => ?_) | (refine DW_r anWB9181 Try.mixed (by kernel_rfl) ?_; simp [hnt, Try.ntmps181, Try.results181, anWB9181, h2, h2', w1, w2, w3, w4, t1, t2]; try simp (disch := omega) only [wrap64_in]) | (refine DW_block ?_) | (focus (refine DW_if ?_ ?_ ?_; (· (simp [hnt, Try.ntmps181, Try.results181, anWB9181, h2, h2', w1, w2, w3, w4, t1, t2]; done)); (try (rotate_left; (· (intro hc; (try simp [hnt, Try.ntmps181, Try.results181, anWB9181, h2, h2', w1, w2, w3, w4, t1, t2] at hc); done)))))) | (refine DW_ret ?_; simp [hnt, Try.ntmps181, Try.results181, anWB9181, h2, h2', w1, w2, w3, w4, t1, t2]) | (refine DW_exit ?_; simp [hnt, Try.ntmps181, Try.results181, anWB9181, h2, h2', w1, w2, w3, w4, t1, t2]) | (refine DW_skip ?_; simp [hnt, Try.ntmps181, Try.results181, anWB9181, h2, h2', w1, w2, w3, w4, t1, t2]) | (intro hc; (try simp [hnt, Try.ntmps181, Try.results181, anWB9181, h2, h2', w1, w2, w3, w4, t1, t2] at hc); done) | (intro hc; (try simp [hnt, Try.ntmps181, Try.results181, anWB9181, h2, h2', w1, w2, w3, w4, t1, t2] at hc); (first | (exfalso; omega) | skip)) | (refine callP_mk (i1) ?_; try simp [hnt, Try.ntmps181, Try.results181, anWB9181, h2, h2', w1, w2, w3, w4, t1, t2]) | (refine callP_wk (i1) ?_ ?_; (· (simp; done)); try simp [hnt, Try.ntmps181, Try.results181, anWB9181, h2, h2', w1, w2, w3, w4, t1, t2]) | (refine callP_mk (i2) ?_; try simp [hnt, Try.ntmps181, Try.results181, anWB9181, h2, h2', w1, w2, w3, w4, t1, t2]) | (refine callP_wk (i2) ?_ ?_; (· (simp; done)); try simp [hnt, Try.ntmps181, Try.results181, anWB9181, h2, h2', w1, w2, w3, w4, t1, t2]) | (refine callP_mk (i3) ?_; try simp [hnt, Try.ntmps181, Try.results181, anWB9181, h2, h2', w1, w2, w3, w4, t1, t2]) | (refine callP_wk (i3) ?_ ?_; (· (simp; done)); try simp [hnt, Try.ntmps181, Try.results181, anWB9181, h2, h2', w1, w2, w3, w4, t1, t2]) | (refine ⟨?_, ?_⟩; · omega) | omega | apply_assumption -exfalso -symm | (exfalso; omega)))
end Go.Proofs.Ytihkcegelghcpaa
end

section
/- graphs by definition: labels, lone nodes, the text, Check -/

set_option linter.unusedSimpArgs false
set_option linter.unusedVariables false
namespace Go.Proofs.Ytihkcegelghcpaa
open Go Go.Dm
attribute [local irreducible] DW callP callS
set_option maxRecDepth 100000

def labelsL (es : List Edge) : List ByteArray := es.map (·.lb)
def endsL (es : List Edge) : List ByteArray := es.flatMap fun e => [e.fr, e.to]
def loneL (g : Edges) : List ByteArray := g.nodes.filter fun n => !decide (n ∈ endsL g.edges)
theorem endsL_take {es : List Edge} {k : Nat} {x : Edge} (hx : es[k]? = some x) : endsL (es.take (k + 1)) = endsL (es.take k) ++ [x.fr, x.to] := by
  obtain ⟨h, rfl⟩ := List.getElem?_eq_some_iff.1 hx
  unfold endsL
  rw [List.take_succ_eq_append_getElem h, List.flatMap_append]
  simp
theorem endsL_len (es : List Edge) : (endsL es).length = 2 * es.length := by
  induction es with
  | nil => rfl
  | cons x l ih =>
    have : endsL (x :: l) = x.fr :: x.to :: endsL l := rfl
    rw [this]; simp; omega

def anWB10147 : Ann := ⟨[], []⟩
theorem labels147_pure (es : List Edge) : DPure Try.prog 147 [dEds es] (dStrs (uniqS (labelsL es))) := by
  refine DPure_introF [] (fn := Try.f147) Try.func147 rfl Try.call147 (by simp [Try.ntmps147]) (by simp [mx]) ?_
  intro hwf B hnt
  have hsz : es.length * 48 ≤ 150000000000000 := by have := hwf.1; simp only [wfD, List.length_map] at this; exact this.1
  clear hwf
  simp only [argS]
  obtain ⟨R, hR⟩ : ∃ R, R = uniqS (labelsL es) := ⟨_, rfl⟩
  rw [← hR]
  (repeat (first | (refine DW_seq fun K hK => ?_) | (refine DW_r anWB10147 Try.mixed (by kernel_rfl) ?_; simp [hnt, Try.ntmps147, Try.results147, anWB10147]; try simp (disch := omega) only [wrap64_in]) | (refine DW_block ?_) | (focus (refine DW_if ?_ ?_ ?_; (· (simp [hnt, Try.ntmps147, Try.results147, anWB10147]; done)); (try (rotate_left; (· (intro hc; (try simp [hnt, Try.ntmps147, Try.results147, anWB10147] at hc); done)))))) | (refine DW_ret ?_; simp [hnt, Try.ntmps147, Try.results147, anWB10147]) | (refine DW_exit ?_; simp [hnt, Try.ntmps147, Try.results147, anWB10147]) | (refine DW_skip ?_; simp [hnt, Try.ntmps147, Try.results147, anWB10147]) | (intro hc; (try simp [hnt, Try.ntmps147, Try.results147, anWB10147] at hc); done) | (intro hc; (try simp [hnt, Try.ntmps147, Try.results147, anWB10147] at hc); (first | (exfalso; omega) | skip)) | (refine ⟨?_, ?_⟩; · omega) | omega | apply_assumption -exfalso -symm | (exfalso; omega)))
  refine DW_adoptS 3 3 9 1 16 (by simp [hnt, Try.ntmps147]) (fun n3 => ?_)
  refine DW_loop (X := {k : Nat // k ≤ es.length}) (fun k => ⟨[(0, dEds es), (3, .osl 3 1), (4, .int .i64 k.1)], [⟨3, 1, .row 9 1 16 ((labelsL (es.take k.1)).map dStr)⟩]⟩) (fun k => es.length - k.1) ⟨0, by omega⟩ (Sub.lit (by simp [labelsL])) ?_
  rintro ⟨k, hk⟩
  by_cases hlt : k < es.length
  · obtain ⟨x, hx, hx', hxm⟩ := at_lt' hlt
    have htk : labelsL (es.take (k + 1)) = labelsL (es.take k) ++ [x.lb] := by unfold labelsL; rw [List.take_succ_eq_append_getElem hlt, hx', List.map_append]; rfl
    have hl1 : (labelsL (es.take k)).length = k := by simp [labelsL]; omega
    obtain ⟨T, hT⟩ : ∃ T, T = labelsL (es.take k) := ⟨_, rfl⟩
    rw [← hT] at htk hl1 ⊢
    have z1 : (k + 1) * 16 ≤ 150000000000000 := by omega
    have z2 : k + 1 ≤ 9223372036854775807 := by omega
    (repeat (first | (refine DW_seq fun K hK => ?_) | (refine DW_r anWB10147 Try.mixed (by kernel_rfl) ?_; simp [hnt, Try.ntmps147, Try.results147, anWB10147, dEdge, hlt, hx, hx', hl1, z1, z2]; try simp (disch := omega) only [wrap64_in]) | (refine DW_block ?_) | (focus (refine DW_if ?_ ?_ ?_; (· (simp [hnt, Try.ntmps147, Try.results147, anWB10147, dEdge, hlt, hx, hx', hl1, z1, z2]; done)); (try (rotate_left; (· (intro hc; (try simp [hnt, Try.ntmps147, Try.results147, anWB10147, dEdge, hlt, hx, hx', hl1, z1, z2] at hc); done)))))) | (refine DW_ret ?_; simp [hnt, Try.ntmps147, Try.results147, anWB10147, dEdge, hlt, hx, hx', hl1, z1, z2]) | (refine DW_exit ?_; simp [hnt, Try.ntmps147, Try.results147, anWB10147, dEdge, hlt, hx, hx', hl1, z1, z2]) | (refine DW_skip ?_; simp [hnt, Try.ntmps147, Try.results147, anWB10147, dEdge, hlt, hx, hx', hl1, z1, z2]) | (intro hc; (try simp [hnt, Try.ntmps147, Try.results147, anWB10147, dEdge, hlt, hx, hx', hl1, z1, z2] at hc); done) | (intro hc; (try simp [hnt, Try.ntmps147, Try.results147, anWB10147, dEdge, hlt, hx, hx', hl1, z1, z2] at hc); (first | (exfalso; omega) | skip)) | (refine ⟨?_, ?_⟩; · omega) | omega | apply_assumption -exfalso -symm | (exfalso; omega)))
    refine Again.mk ⟨k + 1, by omega⟩ (Sub.lit (by simp [htk, dStr])) (by simp; omega)
    (repeat (first | (refine DW_seq fun K hK => ?_) | (refine DW_r anWB10147 Try.mixed (by kernel_rfl) ?_; simp [hnt, Try.ntmps147, Try.results147, anWB10147]; try simp (disch := omega) only [wrap64_in]) | (refine DW_block ?_) | (focus (refine DW_if ?_ ?_ ?_; (· (simp [hnt, Try.ntmps147, Try.results147, anWB10147]; done)); (try (rotate_left; (· (intro hc; (try simp [hnt, Try.ntmps147, Try.results147, anWB10147] at hc); done)))))) | (refine DW_ret ?_; simp [hnt, Try.ntmps147, Try.results147, anWB10147]) | (refine DW_exit ?_; simp [hnt, Try.ntmps147, Try.results147, anWB10147]) | (refine DW_skip ?_; simp [hnt, Try.ntmps147, Try.results147, anWB10147]) | (intro hc; (try simp [hnt, Try.ntmps147, Try.results147, anWB10147] at hc); done) | (intro hc; (try simp [hnt, Try.ntmps147, Try.results147, anWB10147] at hc); (first | (exfalso; omega) | skip)) | (refine ⟨?_, ?_⟩; · omega) | omega | apply_assumption -exfalso -symm | (exfalso; omega)))
  · have hkk : k = es.length := by omega
    subst hkk
    rw [List.take_length]
    have h1 := texts_pure _ (labelsL es) rfl (by simp [labelsL]; omega)
    rw [← hR] at h1
    clear hR
    obtain ⟨T, hT⟩ : ∃ T, T = labelsL es := ⟨_, rfl⟩
    rw [← hT] at h1 ⊢
    refine DW_sub (Sub.freezeL [3] _) ?_
    simp [hnt, Try.ntmps147, Try.results147, anWB10147]
    (repeat (first | (refine DW_seq fun K hK => ?_) | (refine DW_r anWB10147 Try.mixed (by kernel_rfl) ?_; simp [hnt, Try.ntmps147, Try.results147, anWB10147]; try simp (disch := omega) only [wrap64_in]) | (refine DW_block ?_) | (focus (refine DW_if ?_ ?_ ?_; (· (simp [hnt, Try.ntmps147, Try.results147, anWB10147]; done)); (try (rotate_left; (· (intro hc; (try simp [hnt, Try.ntmps147, Try.results147, anWB10147] at hc); done)))))) | (refine DW_ret ?_; simp [hnt, Try.ntmps147, Try.results147, anWB10147]) | (refine DW_exit ?_; simp [hnt, Try.ntmps147, Try.results147, anWB10147]) | (refine DW_skip ?_; simp [hnt, Try.ntmps147, Try.results147, anWB10147]) | (intro hc; (try simp [hnt, Try.ntmps147, Try.results147, anWB10147] at hc); done) | (intro hc; (try simp [hnt, Try.ntmps147, Try.results147, anWB10147] at hc); (first | (exfalso; omega) | skip)) | (refine callP_mk (h1) ?_; try simp [hnt, Try.ntmps147, Try.results147, anWB10147]) | (refine callP_wk (h1) ?_ ?_; (· (simp; done)); try simp [hnt, Try.ntmps147, Try.results147, anWB10147]) | (refine ⟨?_, ?_⟩; · omega) | omega | apply_assumption -exfalso -symm | (exfalso; omega)))

def anWB10182 : Ann := ⟨[], []⟩
set_option maxHeartbeats 2000000 in
theorem lone182_pure (g : Edges) : DPure Try.prog 182 [.agg (dGr g)] (dStrs (loneL g)) := by
  refine DPure_introF [5] (fn := Try.f182) Try.func182 rfl Try.call182 (by simp [Try.ntmps182]) (by simp [mx]) ?_
  intro hwf B hnt
  obtain ⟨ns, es⟩ := g
  have hs1 : ns.length * 16 ≤ 150000000000000 := by have := hwf.1; simp only [wfD, dGr, wfL, List.length_map] at this; exact this.1.1
  have hs2 : es.length * 48 ≤ 150000000000000 := by have := hwf.1; simp only [wfD, dGr, wfL, List.length_map] at this; exact this.2.1.1
  clear hwf
  simp only [argS]
  obtain ⟨R, hR⟩ : ∃ R, R = loneL ⟨ns, es⟩ := ⟨_, rfl⟩
  rw [← hR]
  (repeat (first | (refine DW_seq fun K hK => ?_) | (refine DW_r anWB10182 Try.mixed (by kernel_rfl) ?_; simp [hnt, Try.ntmps182, Try.results182, anWB10182, dGr]; try simp (disch := omega) only [wrap64_in]) | (refine DW_block ?_) | (focus (refine DW_if ?_ ?_ ?_; (· (simp [hnt, Try.ntmps182, Try.results182, anWB10182, dGr]; done)); (try (rotate_left; (· (intro hc; (try simp [hnt, Try.ntmps182, Try.results182, anWB10182, dGr] at hc); done)))))) | (refine DW_ret ?_; simp [hnt, Try.ntmps182, Try.results182, anWB10182, dGr]) | (refine DW_exit ?_; simp [hnt, Try.ntmps182, Try.results182, anWB10182, dGr]) | (refine DW_skip ?_; simp [hnt, Try.ntmps182, Try.results182, anWB10182, dGr]) | (intro hc; (try simp [hnt, Try.ntmps182, Try.results182, anWB10182, dGr] at hc); done) | (intro hc; (try simp [hnt, Try.ntmps182, Try.results182, anWB10182, dGr] at hc); (first | (exfalso; omega) | skip)) | (refine ⟨?_, ?_⟩; · omega) | omega | apply_assumption -exfalso -symm | (exfalso; omega)))
  refine DW_adoptS 3 3 9 1 16 (by simp [hnt, Try.ntmps182]) (fun n3 => ?_)
  refine DW_loop (X := {k : Nat // k ≤ es.length}) (fun k => ⟨[(1, .ref [dStrs ns, dEds es]), (3, .osl 3 1), (4, .int .i64 k.1)], [⟨3, 1, .row 9 1 16 ((endsL (es.take k.1)).map dStr)⟩]⟩) (fun k => es.length - k.1) ⟨0, by omega⟩ (Sub.lit (by simp [endsL])) ?_
  rintro ⟨k, hk⟩
  by_cases hlt : k < es.length
  · obtain ⟨x, hx, hx', hxm⟩ := at_lt' hlt
    have htk := endsL_take hx
    have hl1 : (endsL (es.take k)).length = 2 * k := by rw [endsL_len, List.length_take]; omega
    obtain ⟨T, hT⟩ : ∃ T, T = endsL (es.take k) := ⟨_, rfl⟩
    rw [← hT] at htk hl1 ⊢
    have z1 : (2 * k + 2) * 16 ≤ 150000000000000 := by omega
    have z2 : 2 * k + 2 ≤ 9223372036854775807 := by omega
    have hr2 : (([0, 1] : List Nat) = List.range 2) = True := eq_true rfl
    (repeat (first | (refine DW_seq fun K hK => ?_) | (refine DW_r anWB10182 Try.mixed (by kernel_rfl) ?_; simp [hnt, Try.ntmps182, Try.results182, anWB10182, dEdge, hlt, hx, hx', hl1, z1, z2, hr2]; try simp (disch := omega) only [wrap64_in]) | (refine DW_block ?_) | (focus (refine DW_if ?_ ?_ ?_; (· (simp [hnt, Try.ntmps182, Try.results182, anWB10182, dEdge, hlt, hx, hx', hl1, z1, z2, hr2]; done)); (try (rotate_left; (· (intro hc; (try simp [hnt, Try.ntmps182, Try.results182, anWB10182, dEdge, hlt, hx, hx', hl1, z1, z2, hr2] at hc); done)))))) | (refine DW_ret ?_; simp [hnt, Try.ntmps182, Try.results182, anWB10182, dEdge, hlt, hx, hx', hl1, z1, z2, hr2]) | (refine DW_exit ?_; simp [hnt, Try.ntmps182, Try.results182, anWB10182, dEdge, hlt, hx, hx', hl1, z1, z2, hr2]) | (refine DW_skip ?_; simp [hnt, Try.ntmps182, Try.results182, anWB10182, dEdge, hlt, hx, hx', hl1, z1, z2, hr2]) | (intro hc; (try simp [hnt, Try.ntmps182, Try.results182, anWB10182, dEdge, hlt, hx, hx', hl1, z1, z2, hr2] at hc); done) | (intro hc; (try simp [hnt, Try.ntmps182, Try.results182, anWB10182, dEdge, hlt, hx, hx', hl1, z1, z2, hr2] at hc); (first | (exfalso; omega) | skip)) | (refine ⟨?_, ?_⟩; · omega) | omega | apply_assumption -exfalso -symm | (exfalso; omega)))
    refine Again.mk ⟨k + 1, by omega⟩ (Sub.lit (by simp [htk, dStr])) (by simp; omega)
    (repeat (first | (refine DW_seq fun K hK => ?_) | (refine DW_r anWB10182 Try.mixed (by kernel_rfl) ?_; simp [hnt, Try.ntmps182, Try.results182, anWB10182]; try simp (disch := omega) only [wrap64_in]) | (refine DW_block ?_) | (focus (refine DW_if ?_ ?_ ?_; (· (simp [hnt, Try.ntmps182, Try.results182, anWB10182]; done)); (try (rotate_left; (· (intro hc; (try simp [hnt, Try.ntmps182, Try.results182, anWB10182] at hc); done)))))) | (refine DW_ret ?_; simp [hnt, Try.ntmps182, Try.results182, anWB10182]) | (refine DW_exit ?_; simp [hnt, Try.ntmps182, Try.results182, anWB10182]) | (refine DW_skip ?_; simp [hnt, Try.ntmps182, Try.results182, anWB10182]) | (intro hc; (try simp [hnt, Try.ntmps182, Try.results182, anWB10182] at hc); done) | (intro hc; (try simp [hnt, Try.ntmps182, Try.results182, anWB10182] at hc); (first | (exfalso; omega) | skip)) | (refine ⟨?_, ?_⟩; · omega) | omega | apply_assumption -exfalso -symm | (exfalso; omega)))
  · have hkk : k = es.length := by omega
    subst hkk
    rw [List.take_length]
    have hel := endsL_len es
    have h1 := texts_pure _ (endsL es) rfl (by omega)
    have hmem := uniqS_ok (endsL es)
    have hRd : R = ns.filter fun n => !decide (n ∈ uniqS (endsL es)) := by
      rw [hR]
      unfold loneL
      congr 1
      funext n
      simp only [hmem.2 n]
    obtain ⟨T, hT⟩ : ∃ T, T = endsL es := ⟨_, rfl⟩
    rw [← hT] at h1 hmem hRd ⊢
    obtain ⟨U, hU⟩ : ∃ U, U = uniqS T := ⟨_, rfl⟩
    rw [← hU] at h1 hmem hRd
    refine DW_sub (Sub.freezeL [3] _) ?_
    simp [hnt, Try.ntmps182, Try.results182, anWB10182]
    (repeat (first | (refine DW_seq fun K hK => ?_) | (refine DW_r anWB10182 Try.mixed (by kernel_rfl) ?_; simp [hnt, Try.ntmps182, Try.results182, anWB10182]; try simp (disch := omega) only [wrap64_in]) | (refine DW_block ?_) | (focus (refine DW_if ?_ ?_ ?_; (· (simp [hnt, Try.ntmps182, Try.results182, anWB10182]; done)); (try (rotate_left; (· (intro hc; (try simp [hnt, Try.ntmps182, Try.results182, anWB10182] at hc); done)))))) | (refine DW_ret ?_; simp [hnt, Try.ntmps182, Try.results182, anWB10182]) | (refine DW_exit ?_; simp [hnt, Try.ntmps182, Try.results182, anWB10182]) | (refine DW_skip ?_; simp [hnt, Try.ntmps182, Try.results182, anWB10182]) | (intro hc; (try simp [hnt, Try.ntmps182, Try.results182, anWB10182] at hc); done) | (intro hc; (try simp [hnt, Try.ntmps182, Try.results182, anWB10182] at hc); (first | (exfalso; omega) | skip)) | (refine callP_mk (h1) ?_; try simp [hnt, Try.ntmps182, Try.results182, anWB10182]) | (refine callP_wk (h1) ?_ ?_; (· (simp; done)); try simp [hnt, Try.ntmps182, Try.results182, anWB10182]) | (refine ⟨?_, ?_⟩; · omega) | omega | apply_assumption -exfalso -symm | (exfalso; omega)))
    refine DW_adoptS 5 5 9 1 16 (by simp [hnt, Try.ntmps182]) (fun n5 => ?_)
    refine DW_loop (X := {k : Nat // k ≤ ns.length}) (fun k => ⟨[(1, .ref [dStrs ns, dEds es]), (3, dStrs U), (5, .osl 5 1), (6, .int .i64 k.1)], [⟨5, 1, .row 9 1 16 (((ns.take k.1).filter fun n => !decide (n ∈ U)).map dStr)⟩]⟩) (fun k => ns.length - k.1) ⟨0, by omega⟩ (Sub.lit (by simp)) ?_
    rintro ⟨k, hk⟩
    by_cases hlt : k < ns.length
    · obtain ⟨x, hx, hx', hxm⟩ := at_lt' hlt
      have htk : (ns.take (k + 1)).filter (fun n => !decide (n ∈ U)) = (ns.take k).filter (fun n => !decide (n ∈ U)) ++ (if x ∈ U then [] else [x]) := by
        rw [List.take_succ_eq_append_getElem hlt, hx', List.filter_append]
        by_cases hxu : x ∈ U <;> simp [hxu]
      have hl1 : ((ns.take k).filter fun n => !decide (n ∈ U)).length ≤ k := Nat.le_trans (List.length_filter_le ..) (List.length_take_le k ns)
      obtain ⟨V, hV⟩ : ∃ V, V = (ns.take k).filter fun n => !decide (n ∈ U) := ⟨_, rfl⟩
      rw [← hV] at htk hl1 ⊢
      have z1 : (V.length + 1) * 16 ≤ 150000000000000 := by omega
      have z2 : V.length + 1 ≤ 9223372036854775807 := by omega
      have a1 := among_pure U x hmem.1
      by_cases hxu : x ∈ U
      · simp only [hxu, decide_true] at a1
        rw [if_pos hxu, List.append_nil] at htk
        (repeat (first | (refine DW_seq fun K hK => ?_) | (refine DW_r anWB10182 Try.mixed (by kernel_rfl) ?_; simp [hnt, Try.ntmps182, Try.results182, anWB10182, dStr, hlt, hx, hx', z1, z2]; try simp (disch := omega) only [wrap64_in]) | (refine DW_block ?_) | (focus (refine DW_if ?_ ?_ ?_; (· (simp [hnt, Try.ntmps182, Try.results182, anWB10182, dStr, hlt, hx, hx', z1, z2]; done)); (try (rotate_left; (· (intro hc; (try simp [hnt, Try.ntmps182, Try.results182, anWB10182, dStr, hlt, hx, hx', z1, z2] at hc); done)))))) | (refine DW_ret ?_; simp [hnt, Try.ntmps182, Try.results182, anWB10182, dStr, hlt, hx, hx', z1, z2]) | (refine DW_exit ?_; simp [hnt, Try.ntmps182, Try.results182, anWB10182, dStr, hlt, hx, hx', z1, z2]) | (refine DW_skip ?_; simp [hnt, Try.ntmps182, Try.results182, anWB10182, dStr, hlt, hx, hx', z1, z2]) | (intro hc; (try simp [hnt, Try.ntmps182, Try.results182, anWB10182, dStr, hlt, hx, hx', z1, z2] at hc); done) | (intro hc; (try simp [hnt, Try.ntmps182, Try.results182, anWB10182, dStr, hlt, hx, hx', z1, z2] at hc); (first | (exfalso; omega) | skip)) | (refine callP_mk (a1) ?_; try simp [hnt, Try.ntmps182, Try.results182, anWB10182, dStr, hlt, hx, hx', z1, z2]) | (refine callP_wk (a1) ?_ ?_; (· (simp; done)); try simp [hnt, Try.ntmps182, Try.results182, anWB10182, dStr, hlt, hx, hx', z1, z2]) | (refine ⟨?_, ?_⟩; · omega) | omega | apply_assumption -exfalso -symm | (exfalso; omega)))
        refine Again.mk ⟨k + 1, by omega⟩ (Sub.lit (by simp only [htk]; simp)) (by simp; omega)
        (repeat (first | (refine DW_seq fun K hK => ?_) | (refine DW_r anWB10182 Try.mixed (by kernel_rfl) ?_; simp [hnt, Try.ntmps182, Try.results182, anWB10182]; try simp (disch := omega) only [wrap64_in]) | (refine DW_block ?_) | (focus (refine DW_if ?_ ?_ ?_; (· (simp [hnt, Try.ntmps182, Try.results182, anWB10182]; done)); (try (rotate_left; (· (intro hc; (try simp [hnt, Try.ntmps182, Try.results182, anWB10182] at hc); done)))))) | (refine DW_ret ?_; simp [hnt, Try.ntmps182, Try.results182, anWB10182]) | (refine DW_exit ?_; simp [hnt, Try.ntmps182, Try.results182, anWB10182]) | (refine DW_skip ?_; simp [hnt, Try.ntmps182, Try.results182, anWB10182]) | (intro hc; (try simp [hnt, Try.ntmps182, Try.results182, anWB10182] at hc); done) | (intro hc; (try simp [hnt, Try.ntmps182, Try.results182, anWB10182] at hc); (first | (exfalso; omega) | skip)) | (refine callP_mk (a1) ?_; try simp [hnt, Try.ntmps182, Try.results182, anWB10182]) | (refine callP_wk (a1) ?_ ?_; (· (simp; done)); try simp [hnt, Try.ntmps182, Try.results182, anWB10182]) | (refine ⟨?_, ?_⟩; · omega) | omega | apply_assumption -exfalso -symm | (exfalso; omega)))
      · simp only [hxu, decide_false] at a1
        rw [if_neg hxu] at htk
        (repeat (first | (refine DW_seq fun K hK => ?_) | (refine DW_r anWB10182 Try.mixed (by kernel_rfl) ?_; simp [hnt, Try.ntmps182, Try.results182, anWB10182, dStr, hlt, hx, hx', z1, z2]; try simp (disch := omega) only [wrap64_in]) | (refine DW_block ?_) | (focus (refine DW_if ?_ ?_ ?_; (· (simp [hnt, Try.ntmps182, Try.results182, anWB10182, dStr, hlt, hx, hx', z1, z2]; done)); (try (rotate_left; (· (intro hc; (try simp [hnt, Try.ntmps182, Try.results182, anWB10182, dStr, hlt, hx, hx', z1, z2] at hc); done)))))) | (refine DW_ret ?_; simp [hnt, Try.ntmps182, Try.results182, anWB10182, dStr, hlt, hx, hx', z1, z2]) | (refine DW_exit ?_; simp [hnt, Try.ntmps182, Try.results182, anWB10182, dStr, hlt, hx, hx', z1, z2]) | (refine DW_skip ?_; simp [hnt, Try.ntmps182, Try.results182, anWB10182, dStr, hlt, hx, hx', z1, z2]) | (intro hc; (try simp [hnt, Try.ntmps182, Try.results182, anWB10182, dStr, hlt, hx, hx', z1, z2] at hc); done) | (intro hc; (try simp [hnt, Try.ntmps182, Try.results182, anWB10182, dStr, hlt, hx, hx', z1, z2] at hc); (first | (exfalso; omega) | skip)) | (refine callP_mk (a1) ?_; try simp [hnt, Try.ntmps182, Try.results182, anWB10182, dStr, hlt, hx, hx', z1, z2]) | (refine callP_wk (a1) ?_ ?_; (· (simp; done)); try simp [hnt, Try.ntmps182, Try.results182, anWB10182, dStr, hlt, hx, hx', z1, z2]) | (refine ⟨?_, ?_⟩; · omega) | omega | apply_assumption -exfalso -symm | (exfalso; omega)))
        refine Again.mk ⟨k + 1, by omega⟩ (Sub.lit (by simp only [htk]; simp [dStr])) (by simp; omega)
        (repeat (first | (refine DW_seq fun K hK => ?_) | (refine DW_r anWB10182 Try.mixed (by kernel_rfl) ?_; simp [hnt, Try.ntmps182, Try.results182, anWB10182]; try simp (disch := omega) only [wrap64_in]) | (refine DW_block ?_) | (focus (refine DW_if ?_ ?_ ?_; (· (simp [hnt, Try.ntmps182, Try.results182, anWB10182]; done)); (try (rotate_left; (· (intro hc; (try simp [hnt, Try.ntmps182, Try.results182, anWB10182] at hc); done)))))) | (refine DW_ret ?_; simp [hnt, Try.ntmps182, Try.results182, anWB10182]) | (refine DW_exit ?_; simp [hnt, Try.ntmps182, Try.results182, anWB10182]) | (refine DW_skip ?_; simp [hnt, Try.ntmps182, Try.results182, anWB10182]) | (intro hc; (try simp [hnt, Try.ntmps182, Try.results182, anWB10182] at hc); done) | (intro hc; (try simp [hnt, Try.ntmps182, Try.results182, anWB10182] at hc); (first | (exfalso; omega) | skip)) | (refine callP_mk (a1) ?_; try simp [hnt, Try.ntmps182, Try.results182, anWB10182]) | (refine callP_wk (a1) ?_ ?_; (· (simp; done)); try simp [hnt, Try.ntmps182, Try.results182, anWB10182]) | (refine ⟨?_, ?_⟩; · omega) | omega | apply_assumption -exfalso -symm | (exfalso; omega)))
    · have hkk : k = ns.length := by omega
      subst hkk
      rw [List.take_length, ← hRd]
      (repeat (first | (refine DW_seq fun K hK => ?_) | (refine DW_r anWB10182 Try.mixed (by kernel_rfl) ?_; simp [hnt, Try.ntmps182, Try.results182, anWB10182]; try simp (disch := omega) only [wrap64_in]) | (refine DW_block ?_) | (focus (refine DW_if ?_ ?_ ?_; (· (simp [hnt, Try.ntmps182, Try.results182, anWB10182]; done)); (try (rotate_left; (· (intro hc; (try simp [hnt, Try.ntmps182, Try.results182, anWB10182] at hc); done)))))) | (refine DW_ret ?_; simp [hnt, Try.ntmps182, Try.results182, anWB10182]) | (refine DW_exit ?_; simp [hnt, Try.ntmps182, Try.results182, anWB10182]) | (refine DW_skip ?_; simp [hnt, Try.ntmps182, Try.results182, anWB10182]) | (intro hc; (try simp [hnt, Try.ntmps182, Try.results182, anWB10182] at hc); done) | (intro hc; (try simp [hnt, Try.ntmps182, Try.results182, anWB10182] at hc); (first | (exfalso; omega) | skip)) | (refine ⟨?_, ?_⟩; · omega) | omega | apply_assumption -exfalso -symm | (exfalso; omega)))

def nlB : ByteArray := ⟨#[32, 59, 10]⟩
def spB : ByteArray := ⟨#[32]⟩
def textN (s n : ByteArray) : ByteArray := s ++ n ++ ⟨#[32, 59, 10]⟩
def textE (s : ByteArray) (x : Edge) : ByteArray := s ++ x.fr ++ ⟨#[32]⟩ ++ x.lb ++ ⟨#[32]⟩ ++ x.to ++ ⟨#[32, 59, 10]⟩
def textB (g : Edges) : ByteArray := g.edges.foldl textE ((loneL g).foldl textN ⟨#[]⟩)
theorem size3 : (⟨#[32, 59, 10]⟩ : ByteArray).size = 3 := rfl
theorem size1 : (⟨#[32]⟩ : ByteArray).size = 1 := rfl
structure SmallG (g : Edges) : Prop where
  n1 : g.nodes.length ≤ 32
  n2 : ∀ n ∈ g.nodes, n.size ≤ 16
  e1 : g.edges.length ≤ 256
  e2 : ∀ e ∈ g.edges, e.fr.size ≤ 16 ∧ e.lb.size ≤ 16 ∧ e.to.size ≤ 16
theorem lone_small {g : Edges} (h : SmallG g) : (loneL g).length ≤ 32 ∧ ∀ n ∈ loneL g, n.size ≤ 16 := by
  unfold loneL
  exact ⟨Nat.le_trans (List.length_filter_le ..) h.n1, fun n hn => h.n2 n (List.mem_filter.1 hn).1⟩
theorem foldl_take {α β : Type} {f : β → α → β} {b : β} {l : List α} {k : Nat} {x : α} (hx : l[k]? = some x) : (l.take (k + 1)).foldl f b = f ((l.take k).foldl f b) x := by
  obtain ⟨h, rfl⟩ := List.getElem?_eq_some_iff.1 hx
  rw [List.take_succ_eq_append_getElem h, List.foldl_append]
  rfl
theorem textN_size (s n : ByteArray) : (textN s n).size = s.size + n.size + 3 := by simp [textN, ByteArray.size_append]; rfl
theorem textE_size (s : ByteArray) (x : Edge) : (textE s x).size = s.size + x.fr.size + x.lb.size + x.to.size + 5 := by
  simp only [textE, ByteArray.size_append, size3, size1]
  omega
theorem lone_size : ∀ (l : List ByteArray) (s : ByteArray), (∀ n ∈ l, n.size ≤ 16) → (l.foldl textN s).size ≤ s.size + 19 * l.length
  | [], s, _ => by simp
  | n :: l, s, h => by
    have h1 := lone_size l (textN s n) fun m hm => h m (List.mem_cons_of_mem _ hm)
    have h2 := h n List.mem_cons_self
    rw [textN_size] at h1
    simp only [List.foldl_cons, List.length_cons]
    omega
theorem edge_size : ∀ (l : List Edge) (s : ByteArray), (∀ e ∈ l, e.fr.size ≤ 16 ∧ e.lb.size ≤ 16 ∧ e.to.size ≤ 16) → (l.foldl textE s).size ≤ s.size + 53 * l.length
  | [], s, _ => by simp
  | n :: l, s, h => by
    have h1 := edge_size l (textE s n) fun m hm => h m (List.mem_cons_of_mem _ hm)
    have h2 := h n List.mem_cons_self
    rw [textE_size] at h1
    simp only [List.foldl_cons, List.length_cons]
    omega

def anWB10148 : Ann := ⟨[], [⟨10, [7], [], []⟩]⟩
set_option maxHeartbeats 2000000 in
theorem text148_pure (g : Edges) (hg : SmallG g) : DPure Try.prog 148 [.agg (dGr g)] (.str (textB g)) := by
  refine DPure_introF [] (fn := Try.f148) Try.func148 rfl Try.call148 (by simp [Try.ntmps148]) (by simp [mx]) ?_
  intro hwf B hnt
  clear hwf
  simp only [argS]
  obtain ⟨R, hRR⟩ : ∃ R, R = textB g := ⟨_, rfl⟩
  rw [← hRR]
  have h1 := lone182_pure g
  obtain ⟨s1, s2⟩ := lone_small hg
  obtain ⟨L, hL⟩ : ∃ L, L = loneL g := ⟨_, rfl⟩
  have hR : textB g = g.edges.foldl textE (L.foldl textN ⟨#[]⟩) := by rw [hL]; rfl
  rw [hR] at hRR
  clear hR
  rw [← hL] at h1 s1 s2
  obtain ⟨n1, n2, n3, n4⟩ := hg
  obtain ⟨ns, es⟩ := g
  simp only [dGr] at h1 n3 n4 hRR
  have hsL := lone_size L ⟨#[]⟩ s2
  rw [show (⟨#[]⟩ : ByteArray).size = 0 from rfl] at hsL
  have e0 : (⟨#[]⟩ : ByteArray).size ≤ maxLen := Nat.zero_le _
  have m3 : 3 ≤ maxLen := by unfold maxLen; omega
  have m1 : 1 ≤ maxLen := by unfold maxLen; omega
  (repeat (first | (refine DW_seq fun K hK => ?_) | (refine DW_r anWB10148 Try.mixed (by kernel_rfl) ?_; simp [hnt, Try.ntmps148, Try.results148, anWB10148, dGr, e0]; try simp (disch := omega) only [wrap64_in]) | (refine DW_block ?_) | (focus (refine DW_if ?_ ?_ ?_; (· (simp [hnt, Try.ntmps148, Try.results148, anWB10148, dGr, e0]; done)); (try (rotate_left; (· (intro hc; (try simp [hnt, Try.ntmps148, Try.results148, anWB10148, dGr, e0] at hc); done)))))) | (refine DW_ret ?_; simp [hnt, Try.ntmps148, Try.results148, anWB10148, dGr, e0]) | (refine DW_exit ?_; simp [hnt, Try.ntmps148, Try.results148, anWB10148, dGr, e0]) | (refine DW_skip ?_; simp [hnt, Try.ntmps148, Try.results148, anWB10148, dGr, e0]) | (intro hc; (try simp [hnt, Try.ntmps148, Try.results148, anWB10148, dGr, e0] at hc); done) | (intro hc; (try simp [hnt, Try.ntmps148, Try.results148, anWB10148, dGr, e0] at hc); (first | (exfalso; omega) | skip)) | (refine callP_mk (h1) ?_; try simp [hnt, Try.ntmps148, Try.results148, anWB10148, dGr, e0]) | (refine callP_wk (h1) ?_ ?_; (· (simp; done)); try simp [hnt, Try.ntmps148, Try.results148, anWB10148, dGr, e0]) | (refine ⟨?_, ?_⟩; · omega) | omega | apply_assumption -exfalso -symm | (exfalso; omega)))
  refine DW_loop (X := {k : Nat // k ≤ L.length}) (fun k => ⟨[(1, .ref [dStrs ns, dEds es]), (3, .str ((L.take k.1).foldl textN ⟨#[]⟩)), (4, dStrs L), (5, .int .i64 k.1)], []⟩) (fun k => L.length - k.1) ⟨0, by omega⟩ (Sub.lit (by simp)) ?_
  rintro ⟨k, hk⟩
  by_cases hlt : k < L.length
  · obtain ⟨x, hx, hx', hxm⟩ := at_lt' hlt
    have htk := foldl_take (f := textN) (b := ⟨#[]⟩) hx
    have hsz := lone_size (L.take k) ⟨#[]⟩ fun n hn => s2 n (List.mem_of_mem_take hn)
    rw [show (⟨#[]⟩ : ByteArray).size = 0 from rfl, List.length_take] at hsz
    obtain ⟨T, hT⟩ : ∃ T, T = (L.take k).foldl textN ⟨#[]⟩ := ⟨_, rfl⟩
    rw [← hT] at htk hsz ⊢
    have hxs := s2 x hxm
    have q1 : T.size + x.size ≤ maxLen := by unfold maxLen; omega
    have q2 : T.size + x.size + 3 ≤ maxLen := by unfold maxLen; omega
    (repeat (first | (refine DW_seq fun K hK => ?_) | (refine DW_r anWB10148 Try.mixed (by kernel_rfl) ?_; simp [hnt, Try.ntmps148, Try.results148, anWB10148, dStr, hlt, hx, hx', q1, q2, size3, ByteArray.size_append, m3, m1]; try simp (disch := omega) only [wrap64_in]) | (refine DW_block ?_) | (focus (refine DW_if ?_ ?_ ?_; (· (simp [hnt, Try.ntmps148, Try.results148, anWB10148, dStr, hlt, hx, hx', q1, q2, size3, ByteArray.size_append, m3, m1]; done)); (try (rotate_left; (· (intro hc; (try simp [hnt, Try.ntmps148, Try.results148, anWB10148, dStr, hlt, hx, hx', q1, q2, size3, ByteArray.size_append, m3, m1] at hc); done)))))) | (refine DW_ret ?_; simp [hnt, Try.ntmps148, Try.results148, anWB10148, dStr, hlt, hx, hx', q1, q2, size3, ByteArray.size_append, m3, m1]) | (refine DW_exit ?_; simp [hnt, Try.ntmps148, Try.results148, anWB10148, dStr, hlt, hx, hx', q1, q2, size3, ByteArray.size_append, m3, m1]) | (refine DW_skip ?_; simp [hnt, Try.ntmps148, Try.results148, anWB10148, dStr, hlt, hx, hx', q1, q2, size3, ByteArray.size_append, m3, m1]) | (intro hc; (try simp [hnt, Try.ntmps148, Try.results148, anWB10148, dStr, hlt, hx, hx', q1, q2, size3, ByteArray.size_append, m3, m1] at hc); done) | (intro hc; (try simp [hnt, Try.ntmps148, Try.results148, anWB10148, dStr, hlt, hx, hx', q1, q2, size3, ByteArray.size_append, m3, m1] at hc); (first | (exfalso; omega) | skip)) | (refine ⟨?_, ?_⟩; · omega) | omega | apply_assumption -exfalso -symm | (exfalso; omega)))
    refine Again.mk ⟨k + 1, by omega⟩ (Sub.lit (by simp [htk, textN])) (by simp; omega)
    (repeat (first | (refine DW_seq fun K hK => ?_) | (refine DW_r anWB10148 Try.mixed (by kernel_rfl) ?_; simp [hnt, Try.ntmps148, Try.results148, anWB10148]; try simp (disch := omega) only [wrap64_in]) | (refine DW_block ?_) | (focus (refine DW_if ?_ ?_ ?_; (· (simp [hnt, Try.ntmps148, Try.results148, anWB10148]; done)); (try (rotate_left; (· (intro hc; (try simp [hnt, Try.ntmps148, Try.results148, anWB10148] at hc); done)))))) | (refine DW_ret ?_; simp [hnt, Try.ntmps148, Try.results148, anWB10148]) | (refine DW_exit ?_; simp [hnt, Try.ntmps148, Try.results148, anWB10148]) | (refine DW_skip ?_; simp [hnt, Try.ntmps148, Try.results148, anWB10148]) | (intro hc; (try simp [hnt, Try.ntmps148, Try.results148, anWB10148] at hc); done) | (intro hc; (try simp [hnt, Try.ntmps148, Try.results148, anWB10148] at hc); (first | (exfalso; omega) | skip)) | (refine ⟨?_, ?_⟩; · omega) | omega | apply_assumption -exfalso -symm | (exfalso; omega)))
  · have hkk : k = L.length := by omega
    subst hkk
    rw [List.take_length]
    obtain ⟨S, hS⟩ : ∃ S, S = L.foldl textN ⟨#[]⟩ := ⟨_, rfl⟩
    rw [← hS] at hsL hRR ⊢
    clear hS
    (repeat (first | (refine DW_seq fun K hK => ?_) | (refine DW_r anWB10148 Try.mixed (by kernel_rfl) ?_; simp [hnt, Try.ntmps148, Try.results148, anWB10148]; try simp (disch := omega) only [wrap64_in]) | (refine DW_block ?_) | (focus (refine DW_if ?_ ?_ ?_; (· (simp [hnt, Try.ntmps148, Try.results148, anWB10148]; done)); (try (rotate_left; (· (intro hc; (try simp [hnt, Try.ntmps148, Try.results148, anWB10148] at hc); done)))))) | (refine DW_ret ?_; simp [hnt, Try.ntmps148, Try.results148, anWB10148]) | (refine DW_exit ?_; simp [hnt, Try.ntmps148, Try.results148, anWB10148]) | (refine DW_skip ?_; simp [hnt, Try.ntmps148, Try.results148, anWB10148]) | (intro hc; (try simp [hnt, Try.ntmps148, Try.results148, anWB10148] at hc); done) | (intro hc; (try simp [hnt, Try.ntmps148, Try.results148, anWB10148] at hc); (first | (exfalso; omega) | skip)) | (refine ⟨?_, ?_⟩; · omega) | omega | apply_assumption -exfalso -symm | (exfalso; omega)))
    refine DW_loop (X := {k : Nat // k ≤ es.length}) (fun k => ⟨[(1, .ref [dStrs ns, dEds es]), (3, .str ((es.take k.1).foldl textE S)), (6, .int .i64 k.1)], []⟩) (fun k => es.length - k.1) ⟨0, by omega⟩ (Sub.lit (by simp)) ?_
    rintro ⟨k, hk⟩
    by_cases hlt : k < es.length
    · obtain ⟨x, hx, hx', hxm⟩ := at_lt' hlt
      have htk := foldl_take (f := textE) (b := S) hx
      have hsz := edge_size (es.take k) S fun n hn => n4 n (List.mem_of_mem_take hn)
      rw [List.length_take] at hsz
      obtain ⟨T, hT⟩ : ∃ T, T = (es.take k).foldl textE S := ⟨_, rfl⟩
      rw [← hT] at htk hsz ⊢
      obtain ⟨x1, x2, x3⟩ := n4 x hxm
      have q1 : T.size + x.fr.size ≤ maxLen := by unfold maxLen; omega
      have q2 : T.size + x.fr.size + 1 ≤ maxLen := by unfold maxLen; omega
      have q3 : T.size + x.fr.size + 1 + x.lb.size ≤ maxLen := by unfold maxLen; omega
      have q4 : T.size + x.fr.size + 1 + x.lb.size + 1 ≤ maxLen := by unfold maxLen; omega
      have q5 : T.size + x.fr.size + 1 + x.lb.size + 1 + x.to.size ≤ maxLen := by unfold maxLen; omega
      have q6 : T.size + x.fr.size + 1 + x.lb.size + 1 + x.to.size + 3 ≤ maxLen := by unfold maxLen; omega
      (repeat (first | (refine DW_seq fun K hK => ?_) | (refine DW_r anWB10148 Try.mixed (by kernel_rfl) ?_; simp [hnt, Try.ntmps148, Try.results148, anWB10148, dEdge, hlt, hx, hx', q1, q2, q3, q4, q5, q6, size3, size1, ByteArray.size_append, m3, m1]; try simp (disch := omega) only [wrap64_in]) | (refine DW_block ?_) | (focus (refine DW_if ?_ ?_ ?_; (· (simp [hnt, Try.ntmps148, Try.results148, anWB10148, dEdge, hlt, hx, hx', q1, q2, q3, q4, q5, q6, size3, size1, ByteArray.size_append, m3, m1]; done)); (try (rotate_left; (· (intro hc; (try simp [hnt, Try.ntmps148, Try.results148, anWB10148, dEdge, hlt, hx, hx', q1, q2, q3, q4, q5, q6, size3, size1, ByteArray.size_append, m3, m1] at hc); done)))))) | (refine DW_ret ?_; simp [hnt, Try.ntmps148, Try.results148, anWB10148, dEdge, hlt, hx, hx', q1, q2, q3, q4, q5, q6, size3, size1, ByteArray.size_append, m3, m1]) | (refine DW_exit ?_; simp [hnt, Try.ntmps148, Try.results148, anWB10148, dEdge, hlt, hx, hx', q1, q2, q3, q4, q5, q6, size3, size1, ByteArray.size_append, m3, m1]) | (refine DW_skip ?_; simp [hnt, Try.ntmps148, Try.results148, anWB10148, dEdge, hlt, hx, hx', q1, q2, q3, q4, q5, q6, size3, size1, ByteArray.size_append, m3, m1]) | (intro hc; (try simp [hnt, Try.ntmps148, Try.results148, anWB10148, dEdge, hlt, hx, hx', q1, q2, q3, q4, q5, q6, size3, size1, ByteArray.size_append, m3, m1] at hc); done) | (intro hc; (try simp [hnt, Try.ntmps148, Try.results148, anWB10148, dEdge, hlt, hx, hx', q1, q2, q3, q4, q5, q6, size3, size1, ByteArray.size_append, m3, m1] at hc); (first | (exfalso; omega) | skip)) | (refine ⟨?_, ?_⟩; · omega) | omega | apply_assumption -exfalso -symm | (exfalso; omega)))
      refine Again.mk ⟨k + 1, by omega⟩ (Sub.lit (by simp [htk, textE])) (by simp; omega)
      (repeat (first | (refine DW_seq fun K hK => ?_) | (refine DW_r anWB10148 Try.mixed (by kernel_rfl) ?_; simp [hnt, Try.ntmps148, Try.results148, anWB10148]; try simp (disch := omega) only [wrap64_in]) | (refine DW_block ?_) | (focus (refine DW_if ?_ ?_ ?_; (· (simp [hnt, Try.ntmps148, Try.results148, anWB10148]; done)); (try (rotate_left; (· (intro hc; (try simp [hnt, Try.ntmps148, Try.results148, anWB10148] at hc); done)))))) | (refine DW_ret ?_; simp [hnt, Try.ntmps148, Try.results148, anWB10148]) | (refine DW_exit ?_; simp [hnt, Try.ntmps148, Try.results148, anWB10148]) | (refine DW_skip ?_; simp [hnt, Try.ntmps148, Try.results148, anWB10148]) | (intro hc; (try simp [hnt, Try.ntmps148, Try.results148, anWB10148] at hc); done) | (intro hc; (try simp [hnt, Try.ntmps148, Try.results148, anWB10148] at hc); (first | (exfalso; omega) | skip)) | (refine ⟨?_, ?_⟩; · omega) | omega | apply_assumption -exfalso -symm | (exfalso; omega)))
    · have hkk : k = es.length := by omega
      subst hkk
      rw [List.take_length, ← hRR]
      (repeat (first | (refine DW_seq fun K hK => ?_) | (refine DW_r anWB10148 Try.mixed (by kernel_rfl) ?_; simp [hnt, Try.ntmps148, Try.results148, anWB10148]; try simp (disch := omega) only [wrap64_in]) | (refine DW_block ?_) | (focus (refine DW_if ?_ ?_ ?_; (· (simp [hnt, Try.ntmps148, Try.results148, anWB10148]; done)); (try (rotate_left; (· (intro hc; (try simp [hnt, Try.ntmps148, Try.results148, anWB10148] at hc); done)))))) | (refine DW_ret ?_; simp [hnt, Try.ntmps148, Try.results148, anWB10148]) | (refine DW_exit ?_; simp [hnt, Try.ntmps148, Try.results148, anWB10148]) | (refine DW_skip ?_; simp [hnt, Try.ntmps148, Try.results148, anWB10148]) | (intro hc; (try simp [hnt, Try.ntmps148, Try.results148, anWB10148] at hc); done) | (intro hc; (try simp [hnt, Try.ntmps148, Try.results148, anWB10148] at hc); (first | (exfalso; omega) | skip)) | (refine ⟨?_, ?_⟩; · omega) | omega | apply_assumption -exfalso -symm | (exfalso; omega)))
end Go.Proofs.Ytihkcegelghcpaa
end

