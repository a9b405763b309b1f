/- Parts of a proof, laid together: WB9, WB10, WB11, WB12, EnSu, WE2, WE3, WB13. -/
import Derived.Test.YtffdjbdokgbibaaGreatqCO7
import Derived.Test.YtffdjbdokgbibaaGreatqCO8
section
/- graphs by definition: texts in order, lone nodes, the text -/


set_option linter.unusedSimpArgs false
set_option linter.unusedVariables false
namespace Go.Proofs.YtffdjbdokgbibaaGreat
open Go Go.Dm
attribute [local irreducible] DW callP callS
set_option maxRecDepth 100000

theorem drop_cons {α : Type} {l : List α} {k : Nat} {x : α} (hx : l[k]? = some x) : l.drop k = x :: l.drop (k + 1) := by
  obtain ⟨h1, rfl⟩ := List.getElem?_eq_some_iff.1 hx
  exact List.drop_eq_getElem_cons h1

def anWB950 : Ann := ⟨[], []⟩
set_option maxHeartbeats 2000000 in
theorem merge_pure (a b : List ByteArray) (hsz : (a.length + b.length) * 16 ≤ 150000000000000) : DPure Tryz.prog 50 [dStrs a, dStrs b] (dStrs (mergeL a b)) := by
  refine DPure_introF [5] (fn := Tryz.f50) Tryz.func50 rfl Tryz.call50 (by simp [Tryz.ntmps50]) (by simp [mx]) ?_
  intro hwf B hnt
  simp only [Tryz.ntmps50] at hnt
  clear hwf
  simp only [argS]
  obtain ⟨R, hR⟩ : ∃ R, R = mergeL a b := ⟨_, rfl⟩
  rw [← hR]
  (repeat (first | refine DW_seq fun K hK => ?_ | (refine DW_r anWB950 Tryz.mixed (by kernel_rfl) ?_; simp [anWB950, hnt]; try simp (disch := omega) only [wrap64_in]) | refine DW_block ?_ | (refine DW_if ?_ ?_ ?_; (· (simp [hnt]; done)); (try (rotate_left; (· (intro hc; (try simp [hnt] at hc); done))))) | (refine DW_ret ?_; simp [Tryz.results50, hnt]) | ((first | refine DW_exit ?_ | refine DW_skip ?_); simp [hnt]) | (intro hc; (try simp [hnt] at hc); (try (exfalso; omega))) | (refine ⟨?_, ?_⟩; · omega) | omega | apply_assumption -exfalso -symm | (exfalso; omega)))
  refine DW_adoptS 5 5 9 1 16 (by simp [hnt, Tryz.ntmps50]) (fun n5 => ?_)
  refine DW_loop (X := {x : Nat × Nat × List ByteArray // x.1 ≤ a.length ∧ x.2.1 ≤ b.length ∧ x.2.2 ++ mergeL (a.drop x.1) (b.drop x.2.1) = R ∧ x.2.2.length ≤ x.1 + x.2.1})
    (fun x => ⟨[(0, dStrs a), (1, dStrs b), (5, .osl 5 1), (6, .int .i64 x.1.1), (7, .int .i64 x.1.2.1)], [⟨5, 1, .row 9 1 16 (x.1.2.2.map dStr)⟩]⟩) (fun x => (a.length - x.1.1) + (b.length - x.1.2.1)) ⟨(0, 0, []), by simp [hR]⟩ (Sub.lit (by simp)) ?_
  rintro ⟨⟨i, j, out⟩, hi, hj, hw, hl⟩
  simp only at hi hj hw hl ⊢
  clear hR
  have z1 : (i < a.length ∨ j < b.length) → (out.length + 1) * 16 ≤ 150000000000000 := fun h => Nat.le_trans (Nat.mul_le_mul_right 16 (by omega)) hsz
  have z2 : (i < a.length ∨ j < b.length) → out.length + 1 ≤ 9223372036854775807 := fun h => by have := z1 h; omega
  by_cases h1 : i < a.length
  · have z1 := z1 (.inl h1)
    have z2 := z2 (.inl h1)
    obtain ⟨x, hx, hx', _⟩ := at_lt' h1
    rw [drop_cons hx] at hw
    by_cases h2 : j < b.length
    · obtain ⟨y, hy, hy', _⟩ := at_lt' h2
      rw [drop_cons hy] at hw
      have e1 : ((j : Int) == b.length) = false := by simp; omega
      unfold mergeL at hw
      cases hc : sLess x y
      · have hc2 : Op.bytesLess x.data.toList y.data.toList = false := hc
        rw [hc] at hw
        simp only [Bool.false_eq_true, if_false] at hw
        cases he : x == y
        · rw [he] at hw
          simp only [Bool.false_eq_true, if_false] at hw
          (repeat (first | refine DW_seq fun K hK => ?_ | (refine DW_r anWB950 Tryz.mixed (by kernel_rfl) ?_; simp [anWB950, hnt, dStr, h1, h2, hx, hx', hy, hy', e1, hc2, he, z1, z2]; try simp (disch := omega) only [wrap64_in]) | refine DW_block ?_ | (refine DW_if ?_ ?_ ?_; (· (simp [hnt, dStr, h1, h2, hx, hx', hy, hy', e1, hc2, he, z1, z2]; done)); (try (rotate_left; (· (intro hc; (try simp [hnt, dStr, h1, h2, hx, hx', hy, hy', e1, hc2, he, z1, z2] at hc); done))))) | (refine DW_ret ?_; simp [Tryz.results50, hnt, dStr, h1, h2, hx, hx', hy, hy', e1, hc2, he, z1, z2]) | ((first | refine DW_exit ?_ | refine DW_skip ?_); simp [hnt, dStr, h1, h2, hx, hx', hy, hy', e1, hc2, he, z1, z2]) | (intro hc; (try simp [hnt, dStr, h1, h2, hx, hx', hy, hy', e1, hc2, he, z1, z2] at hc); (try (exfalso; omega))) | (refine ⟨?_, ?_⟩; · omega) | omega | apply_assumption -exfalso -symm | (exfalso; omega)))
          refine Again.mk ⟨(i, j + 1, out ++ [y]), show i ≤ a.length ∧ j + 1 ≤ b.length ∧ (out ++ [y]) ++ mergeL (a.drop i) (b.drop (j + 1)) = R ∧ (out ++ [y]).length ≤ i + (j + 1) from ⟨by omega, by omega, by rw [drop_cons hx, List.append_assoc]; exact hw, by simp; omega⟩⟩ (Sub.lit (by simp [dStr])) (by simp; omega)
          (repeat (first | refine DW_seq fun K hK => ?_ | (refine DW_r anWB950 Tryz.mixed (by kernel_rfl) ?_; simp [anWB950, hnt]; try simp (disch := omega) only [wrap64_in]) | refine DW_block ?_ | (refine DW_if ?_ ?_ ?_; (· (simp [hnt]; done)); (try (rotate_left; (· (intro hc; (try simp [hnt] at hc); done))))) | (refine DW_ret ?_; simp [Tryz.results50, hnt]) | ((first | refine DW_exit ?_ | refine DW_skip ?_); simp [hnt]) | (intro hc; (try simp [hnt] at hc); (try (exfalso; omega))) | (refine ⟨?_, ?_⟩; · omega) | omega | apply_assumption -exfalso -symm | (exfalso; omega)))
        · rw [he] at hw
          simp only [if_true] at hw
          (repeat (first | refine DW_seq fun K hK => ?_ | (refine DW_r anWB950 Tryz.mixed (by kernel_rfl) ?_; simp [anWB950, hnt, dStr, h1, h2, hx, hx', hy, hy', e1, hc2, he, z1, z2]; try simp (disch := omega) only [wrap64_in]) | refine DW_block ?_ | (refine DW_if ?_ ?_ ?_; (· (simp [hnt, dStr, h1, h2, hx, hx', hy, hy', e1, hc2, he, z1, z2]; done)); (try (rotate_left; (· (intro hc; (try simp [hnt, dStr, h1, h2, hx, hx', hy, hy', e1, hc2, he, z1, z2] at hc); done))))) | (refine DW_ret ?_; simp [Tryz.results50, hnt, dStr, h1, h2, hx, hx', hy, hy', e1, hc2, he, z1, z2]) | ((first | refine DW_exit ?_ | refine DW_skip ?_); simp [hnt, dStr, h1, h2, hx, hx', hy, hy', e1, hc2, he, z1, z2]) | (intro hc; (try simp [hnt, dStr, h1, h2, hx, hx', hy, hy', e1, hc2, he, z1, z2] at hc); (try (exfalso; omega))) | (refine ⟨?_, ?_⟩; · omega) | omega | apply_assumption -exfalso -symm | (exfalso; omega)))
          refine Again.mk ⟨(i + 1, j + 1, out ++ [y]), show i + 1 ≤ a.length ∧ j + 1 ≤ b.length ∧ (out ++ [y]) ++ mergeL (a.drop (i + 1)) (b.drop (j + 1)) = R ∧ (out ++ [y]).length ≤ (i + 1) + (j + 1) from ⟨by omega, by omega, by rw [List.append_assoc]; exact hw, by simp; omega⟩⟩ (Sub.lit (by simp [dStr])) (by simp; omega)
          (repeat (first | refine DW_seq fun K hK => ?_ | (refine DW_r anWB950 Tryz.mixed (by kernel_rfl) ?_; simp [anWB950, hnt]; try simp (disch := omega) only [wrap64_in]) | refine DW_block ?_ | (refine DW_if ?_ ?_ ?_; (· (simp [hnt]; done)); (try (rotate_left; (· (intro hc; (try simp [hnt] at hc); done))))) | (refine DW_ret ?_; simp [Tryz.results50, hnt]) | ((first | refine DW_exit ?_ | refine DW_skip ?_); simp [hnt]) | (intro hc; (try simp [hnt] at hc); (try (exfalso; omega))) | (refine ⟨?_, ?_⟩; · omega) | omega | apply_assumption -exfalso -symm | (exfalso; omega)))
      · have hc2 : Op.bytesLess x.data.toList y.data.toList = true := hc
        rw [hc] at hw
        simp only [if_true] at hw
        (repeat (first | refine DW_seq fun K hK => ?_ | (refine DW_r anWB950 Tryz.mixed (by kernel_rfl) ?_; simp [anWB950, hnt, dStr, h1, h2, hx, hx', hy, hy', e1, hc2, z1, z2]; try simp (disch := omega) only [wrap64_in]) | refine DW_block ?_ | (refine DW_if ?_ ?_ ?_; (· (simp [hnt, dStr, h1, h2, hx, hx', hy, hy', e1, hc2, z1, z2]; done)); (try (rotate_left; (· (intro hc; (try simp [hnt, dStr, h1, h2, hx, hx', hy, hy', e1, hc2, z1, z2] at hc); done))))) | (refine DW_ret ?_; simp [Tryz.results50, hnt, dStr, h1, h2, hx, hx', hy, hy', e1, hc2, z1, z2]) | ((first | refine DW_exit ?_ | refine DW_skip ?_); simp [hnt, dStr, h1, h2, hx, hx', hy, hy', e1, hc2, z1, z2]) | (intro hc; (try simp [hnt, dStr, h1, h2, hx, hx', hy, hy', e1, hc2, z1, z2] at hc); (try (exfalso; omega))) | (refine ⟨?_, ?_⟩; · omega) | omega | apply_assumption -exfalso -symm | (exfalso; omega)))
        refine Again.mk ⟨(i + 1, j, out ++ [x]), show i + 1 ≤ a.length ∧ j ≤ b.length ∧ (out ++ [x]) ++ mergeL (a.drop (i + 1)) (b.drop j) = R ∧ (out ++ [x]).length ≤ (i + 1) + j from ⟨by omega, by omega, by rw [drop_cons hy, List.append_assoc]; exact hw, by simp; omega⟩⟩ (Sub.lit (by simp [dStr])) (by simp; omega)
        (repeat (first | refine DW_seq fun K hK => ?_ | (refine DW_r anWB950 Tryz.mixed (by kernel_rfl) ?_; simp [anWB950, hnt]; try simp (disch := omega) only [wrap64_in]) | refine DW_block ?_ | (refine DW_if ?_ ?_ ?_; (· (simp [hnt]; done)); (try (rotate_left; (· (intro hc; (try simp [hnt] at hc); done))))) | (refine DW_ret ?_; simp [Tryz.results50, hnt]) | ((first | refine DW_exit ?_ | refine DW_skip ?_); simp [hnt]) | (intro hc; (try simp [hnt] at hc); (try (exfalso; omega))) | (refine ⟨?_, ?_⟩; · omega) | omega | apply_assumption -exfalso -symm | (exfalso; omega)))
    · have hjj : j = b.length := by omega
      subst hjj
      rw [List.drop_length] at hw
      unfold mergeL at hw
      (repeat (first | refine DW_seq fun K hK => ?_ | (refine DW_r anWB950 Tryz.mixed (by kernel_rfl) ?_; simp [anWB950, hnt, dStr, h1, h2, hx, hx', z1, z2]; try simp (disch := omega) only [wrap64_in]) | refine DW_block ?_ | (refine DW_if ?_ ?_ ?_; (· (simp [hnt, dStr, h1, h2, hx, hx', z1, z2]; done)); (try (rotate_left; (· (intro hc; (try simp [hnt, dStr, h1, h2, hx, hx', z1, z2] at hc); done))))) | (refine DW_ret ?_; simp [Tryz.results50, hnt, dStr, h1, h2, hx, hx', z1, z2]) | ((first | refine DW_exit ?_ | refine DW_skip ?_); simp [hnt, dStr, h1, h2, hx, hx', z1, z2]) | (intro hc; (try simp [hnt, dStr, h1, h2, hx, hx', z1, z2] at hc); (try (exfalso; omega))) | (refine ⟨?_, ?_⟩; · omega) | omega | apply_assumption -exfalso -symm | (exfalso; omega)))
      refine Again.mk ⟨(i + 1, b.length, out ++ [x]), show i + 1 ≤ a.length ∧ b.length ≤ b.length ∧ (out ++ [x]) ++ mergeL (a.drop (i + 1)) (b.drop b.length) = R ∧ (out ++ [x]).length ≤ (i + 1) + b.length from ⟨by omega, by omega, by rw [List.drop_length, List.append_assoc]; exact hw, by simp; omega⟩⟩ (Sub.lit (by simp [dStr])) (by simp; omega)
      (repeat (first | refine DW_seq fun K hK => ?_ | (refine DW_r anWB950 Tryz.mixed (by kernel_rfl) ?_; simp [anWB950, hnt]; try simp (disch := omega) only [wrap64_in]) | refine DW_block ?_ | (refine DW_if ?_ ?_ ?_; (· (simp [hnt]; done)); (try (rotate_left; (· (intro hc; (try simp [hnt] at hc); done))))) | (refine DW_ret ?_; simp [Tryz.results50, hnt]) | ((first | refine DW_exit ?_ | refine DW_skip ?_); simp [hnt]) | (intro hc; (try simp [hnt] at hc); (try (exfalso; omega))) | (refine ⟨?_, ?_⟩; · omega) | omega | apply_assumption -exfalso -symm | (exfalso; omega)))
  · have hii : i = a.length := by omega
    subst hii
    rw [List.drop_length] at hw
    by_cases h2 : j < b.length
    · have z1 := z1 (.inr h2)
      have z2 := z2 (.inr h2)
      obtain ⟨y, hy, hy', _⟩ := at_lt' h2
      rw [drop_cons hy] at hw
      unfold mergeL at hw
      have e1 : ((j : Int) == b.length) = false := by simp; omega
      (repeat (first | refine DW_seq fun K hK => ?_ | (refine DW_r anWB950 Tryz.mixed (by kernel_rfl) ?_; simp [anWB950, hnt, dStr, h1, h2, hy, hy', e1, z1, z2]; try simp (disch := omega) only [wrap64_in]) | refine DW_block ?_ | (refine DW_if ?_ ?_ ?_; (· (simp [hnt, dStr, h1, h2, hy, hy', e1, z1, z2]; done)); (try (rotate_left; (· (intro hc; (try simp [hnt, dStr, h1, h2, hy, hy', e1, z1, z2] at hc); done))))) | (refine DW_ret ?_; simp [Tryz.results50, hnt, dStr, h1, h2, hy, hy', e1, z1, z2]) | ((first | refine DW_exit ?_ | refine DW_skip ?_); simp [hnt, dStr, h1, h2, hy, hy', e1, z1, z2]) | (intro hc; (try simp [hnt, dStr, h1, h2, hy, hy', e1, z1, z2] at hc); (try (exfalso; omega))) | (refine ⟨?_, ?_⟩; · omega) | omega | apply_assumption -exfalso -symm | (exfalso; omega)))
      refine Again.mk ⟨(a.length, j + 1, out ++ [y]), show a.length ≤ a.length ∧ j + 1 ≤ b.length ∧ (out ++ [y]) ++ mergeL (a.drop a.length) (b.drop (j + 1)) = R ∧ (out ++ [y]).length ≤ a.length + (j + 1) from ⟨by omega, by omega, by rw [List.drop_length, List.append_assoc]; exact hw, by simp; omega⟩⟩ (Sub.lit (by simp [dStr])) (by simp; omega)
      (repeat (first | refine DW_seq fun K hK => ?_ | (refine DW_r anWB950 Tryz.mixed (by kernel_rfl) ?_; simp [anWB950, hnt]; try simp (disch := omega) only [wrap64_in]) | refine DW_block ?_ | (refine DW_if ?_ ?_ ?_; (· (simp [hnt]; done)); (try (rotate_left; (· (intro hc; (try simp [hnt] at hc); done))))) | (refine DW_ret ?_; simp [Tryz.results50, hnt]) | ((first | refine DW_exit ?_ | refine DW_skip ?_); simp [hnt]) | (intro hc; (try simp [hnt] at hc); (try (exfalso; omega))) | (refine ⟨?_, ?_⟩; · omega) | omega | apply_assumption -exfalso -symm | (exfalso; omega)))
    · have hjj : j = b.length := by omega
      subst hjj
      rw [List.drop_length] at hw
      have hm : mergeL [] [] = [] := by unfold mergeL; rfl
      rw [hm, List.append_nil] at hw
      subst hw
      (repeat (first | refine DW_seq fun K hK => ?_ | (refine DW_r anWB950 Tryz.mixed (by kernel_rfl) ?_; simp [anWB950, hnt, h1, h2]; try simp (disch := omega) only [wrap64_in]) | refine DW_block ?_ | (refine DW_if ?_ ?_ ?_; (· (simp [hnt, h1, h2]; done)); (try (rotate_left; (· (intro hc; (try simp [hnt, h1, h2] at hc); done))))) | (refine DW_ret ?_; simp [Tryz.results50, hnt, h1, h2]) | ((first | refine DW_exit ?_ | refine DW_skip ?_); simp [hnt, h1, h2]) | (intro hc; (try simp [hnt, h1, h2] at hc); (try (exfalso; omega))) | (refine ⟨?_, ?_⟩; · omega) | omega | apply_assumption -exfalso -symm | (exfalso; omega)))

def anWB928 : Ann := ⟨[6], []⟩
set_option maxHeartbeats 1000000 in
theorem texts_pure : ∀ (n : Nat) (l : List ByteArray), l.length = n → l.length * 16 ≤ 150000000000000 → DPure Tryz.prog 28 [dStrs l] (dStrs (uniqS l)) := by
  intro n
  induction n using Nat.strongRecOn with
  | ind n ih =>
  intro l hn hsz
  by_cases h2 : l.length < 2
  · refine DPure_introF [6] (fn := Tryz.f28) Tryz.func28 rfl Tryz.call28 (by simp [Tryz.ntmps28]) (by simp [mx]) ?_
    intro hwf B hnt
    simp only [Tryz.ntmps28] at hnt
    clear hwf
    simp only [argS]
    rw [uniq_small h2]
    have h2' : (l.length : Int) < 2 := by omega
    have hl9 : l.length ≤ 9223372036854775807 := by omega
    (repeat (first | refine DW_seq fun K hK => ?_ | (refine DW_r anWB928 Tryz.mixed (by kernel_rfl) ?_; simp [anWB928, hnt, h2, h2', hsz, hl9]; try simp (disch := omega) only [wrap64_in]) | refine DW_block ?_ | (refine DW_if ?_ ?_ ?_; (· (simp [hnt, h2, h2', hsz, hl9]; done)); (try (rotate_left; (· (intro hc; (try simp [hnt, h2, h2', hsz, hl9] at hc); done))))) | (refine DW_ret ?_; simp [Tryz.results28, hnt, h2, h2', hsz, hl9]) | ((first | refine DW_exit ?_ | refine DW_skip ?_); simp [hnt, h2, h2', hsz, hl9]) | (intro hc; (try simp [hnt, h2, h2', hsz, hl9] at hc); (try (exfalso; omega))) | (refine ⟨?_, ?_⟩; · omega) | omega | apply_assumption -exfalso -symm | (exfalso; omega)))
  · refine DPure_introF [] (fn := Tryz.f28) Tryz.func28 rfl Tryz.call28 (by simp [Tryz.ntmps28]) (by simp [mx]) ?_
    intro hwf B hnt
    simp only [Tryz.ntmps28] at hnt
    clear hwf
    simp only [argS]
    obtain ⟨h, hh⟩ : ∃ h, h = l.length / 2 := ⟨_, rfl⟩
    have i1 := ih (l.take h).length (by rw [List.length_take]; omega) (l.take h) rfl (by rw [List.length_take]; omega)
    have i2 := ih (l.drop h).length (by rw [List.length_drop]; omega) (l.drop h) rfl (by rw [List.length_drop]; omega)
    have u1 := uniqS_len (l.take h)
    have u2 := uniqS_len (l.drop h)
    rw [List.length_take] at u1
    rw [List.length_drop] at u2
    have i3 := merge_pure (uniqS (l.take h)) (uniqS (l.drop h)) (Nat.le_trans (Nat.mul_le_mul_right 16 (by omega)) hsz)
    rw [merge_uniq, List.take_append_drop] at i3
    have h2' : ¬ (l.length : Int) < 2 := by omega
    have w1 : ((l.length : Int)).tdiv 2 = h := by rw [Int.tdiv_eq_ediv_of_nonneg (by omega), hh]; omega
    have w2 : IntKind.i64.wrap (h : Int) = h := wrap64_in (by omega) (by omega)
    have w3 : (h : Int) ≤ l.length := by omega
    have w4 : h ≤ l.length := by omega
    rw [dStrs, List.map_take] at i1
    have t1 : (l.map dStr).take (l.length - h + h) = l.map dStr := List.take_of_length_le (by simp; omega)
    have t2 : List.take (l.length - h) (List.drop h (l.map dStr)) = List.drop h (l.map dStr) := List.take_of_length_le (by simp)
    rw [dStrs, List.map_drop] at i2
    (repeat (first | refine DW_seq fun K hK => ?_ | (refine DW_r anWB928 Tryz.mixed (by kernel_rfl) ?_; simp [anWB928, hnt, h2, h2', w1, w2, w3, w4, t1, t2]; try simp (disch := omega) only [wrap64_in]) | refine DW_block ?_ | (refine DW_if ?_ ?_ ?_; (· (simp [hnt, h2, h2', w1, w2, w3, w4, t1, t2]; done)); (try (rotate_left; (· (intro hc; (try simp [hnt, h2, h2', w1, w2, w3, w4, t1, t2] at hc); done))))) | (refine DW_ret ?_; simp [Tryz.results28, hnt, h2, h2', w1, w2, w3, w4, t1, t2]) | ((first | refine DW_exit ?_ | refine DW_skip ?_); simp [hnt, h2, h2', w1, w2, w3, w4, t1, t2]) | (intro hc; (try simp [hnt, h2, h2', w1, w2, w3, w4, t1, t2] at hc); (try (exfalso; omega))) | ((first | refine callP_mk (i1) ?_ | refine callP_mk (i2) ?_ | refine callP_mk (i3) ?_ | (refine callP_wk (i1) ?_ ?_; (· (simp; done))) | (refine callP_wk (i2) ?_ ?_; (· (simp; done))) | (refine callP_wk (i3) ?_ ?_; (· (simp; done)))); try simp [hnt, h2, h2', w1, w2, w3, w4, t1, t2]) | (refine ⟨?_, ?_⟩; · omega) | omega | apply_assumption -exfalso -symm | (exfalso; omega)))
end Go.Proofs.YtffdjbdokgbibaaGreat
end

section
/- graphs by definition: labels, lone nodes, the text, Check -/

set_option linter.unusedSimpArgs false
set_option linter.unusedVariables false
namespace Go.Proofs.YtffdjbdokgbibaaGreat
open Go Go.Dm
attribute [local irreducible] DW callP callS
set_option maxRecDepth 100000

def labelsL (es : List Edge) : List ByteArray := es.map (·.lb)
def endsL (es : List Edge) : List ByteArray := es.flatMap fun e => [e.fr, e.to]
def loneL (g : Edges) : List ByteArray := g.nodes.filter fun n => !decide (n ∈ endsL g.edges)
theorem endsL_take {es : List Edge} {k : Nat} {x : Edge} (hx : es[k]? = some x) : endsL (es.take (k + 1)) = endsL (es.take k) ++ [x.fr, x.to] := by
  obtain ⟨h, rfl⟩ := List.getElem?_eq_some_iff.1 hx
  unfold endsL
  rw [List.take_succ_eq_append_getElem h, List.flatMap_append]
  simp
theorem endsL_len (es : List Edge) : (endsL es).length = 2 * es.length := by
  induction es with
  | nil => rfl
  | cons x l ih =>
    have : endsL (x :: l) = x.fr :: x.to :: endsL l := rfl
    rw [this]; simp; omega

def anWB1052 : Ann := ⟨[], []⟩
theorem labels147_pure (es : List Edge) : DPure Tryz.prog 52 [dEds es] (dStrs (uniqS (labelsL es))) := by
  refine DPure_introF [] (fn := Tryz.f52) Tryz.func52 rfl Tryz.call52 (by simp [Tryz.ntmps52]) (by simp [mx]) ?_
  intro hwf B hnt
  simp only [Tryz.ntmps52] at hnt
  have hsz : es.length * 48 ≤ 150000000000000 := by have := hwf.1; simp only [wfD, List.length_map] at this; exact this.1
  clear hwf
  simp only [argS]
  obtain ⟨R, hR⟩ : ∃ R, R = uniqS (labelsL es) := ⟨_, rfl⟩
  rw [← hR]
  (repeat (first | refine DW_seq fun K hK => ?_ | (refine DW_r anWB1052 Tryz.mixed (by kernel_rfl) ?_; simp [anWB1052, hnt]; try simp (disch := omega) only [wrap64_in]) | refine DW_block ?_ | (refine DW_if ?_ ?_ ?_; (· (simp [hnt]; done)); (try (rotate_left; (· (intro hc; (try simp [hnt] at hc); done))))) | (refine DW_ret ?_; simp [Tryz.results52, hnt]) | ((first | refine DW_exit ?_ | refine DW_skip ?_); simp [hnt]) | (intro hc; (try simp [hnt] at hc); (try (exfalso; omega))) | (refine ⟨?_, ?_⟩; · omega) | omega | apply_assumption -exfalso -symm | (exfalso; omega)))
  refine DW_adoptS 3 3 9 1 16 (by simp [hnt, Tryz.ntmps52]) (fun n3 => ?_)
  refine DW_loop (X := {k : Nat // k ≤ es.length}) (fun k => ⟨[(0, dEds es), (3, .osl 3 1), (4, .int .i64 k.1)], [⟨3, 1, .row 9 1 16 ((labelsL (es.take k.1)).map dStr)⟩]⟩) (fun k => es.length - k.1) ⟨0, by omega⟩ (Sub.lit (by simp [labelsL])) ?_
  rintro ⟨k, hk⟩
  by_cases hlt : k < es.length
  · obtain ⟨x, hx, hx', hxm⟩ := at_lt' hlt
    have htk : labelsL (es.take (k + 1)) = labelsL (es.take k) ++ [x.lb] := by unfold labelsL; rw [List.take_succ_eq_append_getElem hlt, hx', List.map_append]; rfl
    have hl1 : (labelsL (es.take k)).length = k := by simp [labelsL]; omega
    obtain ⟨T, hT⟩ : ∃ T, T = labelsL (es.take k) := ⟨_, rfl⟩
    rw [← hT] at htk hl1 ⊢
    have z1 : (k + 1) * 16 ≤ 150000000000000 := by omega
    have z2 : k + 1 ≤ 9223372036854775807 := by omega
    (repeat (first | refine DW_seq fun K hK => ?_ | (refine DW_r anWB1052 Tryz.mixed (by kernel_rfl) ?_; simp [anWB1052, hnt, dEdge, hlt, hx, hx', hl1, z1, z2]; try simp (disch := omega) only [wrap64_in]) | refine DW_block ?_ | (refine DW_if ?_ ?_ ?_; (· (simp [hnt, dEdge, hlt, hx, hx', hl1, z1, z2]; done)); (try (rotate_left; (· (intro hc; (try simp [hnt, dEdge, hlt, hx, hx', hl1, z1, z2] at hc); done))))) | (refine DW_ret ?_; simp [Tryz.results52, hnt, dEdge, hlt, hx, hx', hl1, z1, z2]) | ((first | refine DW_exit ?_ | refine DW_skip ?_); simp [hnt, dEdge, hlt, hx, hx', hl1, z1, z2]) | (intro hc; (try simp [hnt, dEdge, hlt, hx, hx', hl1, z1, z2] at hc); (try (exfalso; omega))) | (refine ⟨?_, ?_⟩; · omega) | omega | apply_assumption -exfalso -symm | (exfalso; omega)))
    refine Again.mk ⟨k + 1, by omega⟩ (Sub.lit (by simp [htk, dStr])) (by simp; omega)
    (repeat (first | refine DW_seq fun K hK => ?_ | (refine DW_r anWB1052 Tryz.mixed (by kernel_rfl) ?_; simp [anWB1052, hnt]; try simp (disch := omega) only [wrap64_in]) | refine DW_block ?_ | (refine DW_if ?_ ?_ ?_; (· (simp [hnt]; done)); (try (rotate_left; (· (intro hc; (try simp [hnt] at hc); done))))) | (refine DW_ret ?_; simp [Tryz.results52, hnt]) | ((first | refine DW_exit ?_ | refine DW_skip ?_); simp [hnt]) | (intro hc; (try simp [hnt] at hc); (try (exfalso; omega))) | (refine ⟨?_, ?_⟩; · omega) | omega | apply_assumption -exfalso -symm | (exfalso; omega)))
  · have hkk : k = es.length := by omega
    subst hkk
    rw [List.take_length]
    have h1 := texts_pure _ (labelsL es) rfl (by simp [labelsL]; omega)
    rw [← hR] at h1
    clear hR
    obtain ⟨T, hT⟩ : ∃ T, T = labelsL es := ⟨_, rfl⟩
    rw [← hT] at h1 ⊢
    refine DW_sub (Sub.freezeL [3] _) ?_
    simp [hnt, Tryz.results52, anWB1052]
    (repeat (first | refine DW_seq fun K hK => ?_ | (refine DW_r anWB1052 Tryz.mixed (by kernel_rfl) ?_; simp [anWB1052, hnt]; try simp (disch := omega) only [wrap64_in]) | refine DW_block ?_ | (refine DW_if ?_ ?_ ?_; (· (simp [hnt]; done)); (try (rotate_left; (· (intro hc; (try simp [hnt] at hc); done))))) | (refine DW_ret ?_; simp [Tryz.results52, hnt]) | ((first | refine DW_exit ?_ | refine DW_skip ?_); simp [hnt]) | (intro hc; (try simp [hnt] at hc); (try (exfalso; omega))) | ((first | refine callP_mk (h1) ?_ | (refine callP_wk (h1) ?_ ?_; (· (simp; done)))); try simp [hnt]) | (refine ⟨?_, ?_⟩; · omega) | omega | apply_assumption -exfalso -symm | (exfalso; omega)))

def anWB1066 : Ann := ⟨[], []⟩
set_option maxHeartbeats 2000000 in
theorem lone182_pure (g : Edges) : DPure Tryz.prog 66 [.agg (dGr g)] (dStrs (loneL g)) := by
  refine DPure_introF [5] (fn := Tryz.f66) Tryz.func66 rfl Tryz.call66 (by simp [Tryz.ntmps66]) (by simp [mx]) ?_
  intro hwf B hnt
  simp only [Tryz.ntmps66] at hnt
  obtain ⟨ns, es⟩ := g
  have hs1 : ns.length * 16 ≤ 150000000000000 := by have := hwf.1; simp only [wfD, dGr, wfL, List.length_map] at this; exact this.1.1
  have hs2 : es.length * 48 ≤ 150000000000000 := by have := hwf.1; simp only [wfD, dGr, wfL, List.length_map] at this; exact this.2.1.1
  clear hwf
  simp only [argS]
  obtain ⟨R, hR⟩ : ∃ R, R = loneL ⟨ns, es⟩ := ⟨_, rfl⟩
  rw [← hR]
  (repeat (first | refine DW_seq fun K hK => ?_ | (refine DW_r anWB1066 Tryz.mixed (by kernel_rfl) ?_; simp [anWB1066, hnt, dGr]; try simp (disch := omega) only [wrap64_in]) | refine DW_block ?_ | (refine DW_if ?_ ?_ ?_; (· (simp [hnt, dGr]; done)); (try (rotate_left; (· (intro hc; (try simp [hnt, dGr] at hc); done))))) | (refine DW_ret ?_; simp [Tryz.results66, hnt, dGr]) | ((first | refine DW_exit ?_ | refine DW_skip ?_); simp [hnt, dGr]) | (intro hc; (try simp [hnt, dGr] at hc); (try (exfalso; omega))) | (refine ⟨?_, ?_⟩; · omega) | omega | apply_assumption -exfalso -symm | (exfalso; omega)))
  refine DW_adoptS 3 3 9 1 16 (by simp [hnt, Tryz.ntmps66]) (fun n3 => ?_)
  refine DW_loop (X := {k : Nat // k ≤ es.length}) (fun k => ⟨[(1, .ref [dStrs ns, dEds es]), (3, .osl 3 1), (4, .int .i64 k.1)], [⟨3, 1, .row 9 1 16 ((endsL (es.take k.1)).map dStr)⟩]⟩) (fun k => es.length - k.1) ⟨0, by omega⟩ (Sub.lit (by simp [endsL])) ?_
  rintro ⟨k, hk⟩
  by_cases hlt : k < es.length
  · obtain ⟨x, hx, hx', hxm⟩ := at_lt' hlt
    have htk := endsL_take hx
    have hl1 : (endsL (es.take k)).length = 2 * k := by rw [endsL_len, List.length_take]; omega
    obtain ⟨T, hT⟩ : ∃ T, T = endsL (es.take k) := ⟨_, rfl⟩
    rw [← hT] at htk hl1 ⊢
    have z1 : (2 * k + 2) * 16 ≤ 150000000000000 := by omega
    have z2 : 2 * k + 2 ≤ 9223372036854775807 := by omega
    have hr2 : (([0, 1] : List Nat) = List.range 2) = True := eq_true rfl
    (repeat (first | refine DW_seq fun K hK => ?_ | (refine DW_r anWB1066 Tryz.mixed (by kernel_rfl) ?_; simp [anWB1066, hnt, dEdge, hlt, hx, hx', hl1, z1, z2, hr2]; try simp (disch := omega) only [wrap64_in]) | refine DW_block ?_ | (refine DW_if ?_ ?_ ?_; (· (simp [hnt, dEdge, hlt, hx, hx', hl1, z1, z2, hr2]; done)); (try (rotate_left; (· (intro hc; (try simp [hnt, dEdge, hlt, hx, hx', hl1, z1, z2, hr2] at hc); done))))) | (refine DW_ret ?_; simp [Tryz.results66, hnt, dEdge, hlt, hx, hx', hl1, z1, z2, hr2]) | ((first | refine DW_exit ?_ | refine DW_skip ?_); simp [hnt, dEdge, hlt, hx, hx', hl1, z1, z2, hr2]) | (intro hc; (try simp [hnt, dEdge, hlt, hx, hx', hl1, z1, z2, hr2] at hc); (try (exfalso; omega))) | (refine ⟨?_, ?_⟩; · omega) | omega | apply_assumption -exfalso -symm | (exfalso; omega)))
    refine Again.mk ⟨k + 1, by omega⟩ (Sub.lit (by simp [htk, dStr])) (by simp; omega)
    (repeat (first | refine DW_seq fun K hK => ?_ | (refine DW_r anWB1066 Tryz.mixed (by kernel_rfl) ?_; simp [anWB1066, hnt]; try simp (disch := omega) only [wrap64_in]) | refine DW_block ?_ | (refine DW_if ?_ ?_ ?_; (· (simp [hnt]; done)); (try (rotate_left; (· (intro hc; (try simp [hnt] at hc); done))))) | (refine DW_ret ?_; simp [Tryz.results66, hnt]) | ((first | refine DW_exit ?_ | refine DW_skip ?_); simp [hnt]) | (intro hc; (try simp [hnt] at hc); (try (exfalso; omega))) | (refine ⟨?_, ?_⟩; · omega) | omega | apply_assumption -exfalso -symm | (exfalso; omega)))
  · have hkk : k = es.length := by omega
    subst hkk
    rw [List.take_length]
    have hel := endsL_len es
    have h1 := texts_pure _ (endsL es) rfl (by omega)
    have hmem := uniqS_ok (endsL es)
    have hRd : R = ns.filter fun n => !decide (n ∈ uniqS (endsL es)) := by
      rw [hR]
      unfold loneL
      congr 1
      funext n
      simp only [hmem.2 n]
    obtain ⟨T, hT⟩ : ∃ T, T = endsL es := ⟨_, rfl⟩
    rw [← hT] at h1 hmem hRd ⊢
    obtain ⟨U, hU⟩ : ∃ U, U = uniqS T := ⟨_, rfl⟩
    rw [← hU] at h1 hmem hRd
    refine DW_sub (Sub.freezeL [3] _) ?_
    simp [hnt, Tryz.results66, anWB1066]
    (repeat (first | refine DW_seq fun K hK => ?_ | (refine DW_r anWB1066 Tryz.mixed (by kernel_rfl) ?_; simp [anWB1066, hnt]; try simp (disch := omega) only [wrap64_in]) | refine DW_block ?_ | (refine DW_if ?_ ?_ ?_; (· (simp [hnt]; done)); (try (rotate_left; (· (intro hc; (try simp [hnt] at hc); done))))) | (refine DW_ret ?_; simp [Tryz.results66, hnt]) | ((first | refine DW_exit ?_ | refine DW_skip ?_); simp [hnt]) | (intro hc; (try simp [hnt] at hc); (try (exfalso; omega))) | ((first | refine callP_mk (h1) ?_ | (refine callP_wk (h1) ?_ ?_; (· (simp; done)))); try simp [hnt]) | (refine ⟨?_, ?_⟩; · omega) | omega | apply_assumption -exfalso -symm | (exfalso; omega)))
    refine DW_adoptS 5 5 9 1 16 (by simp [hnt, Tryz.ntmps66]) (fun n5 => ?_)
    refine DW_loop (X := {k : Nat // k ≤ ns.length}) (fun k => ⟨[(1, .ref [dStrs ns, dEds es]), (3, dStrs U), (5, .osl 5 1), (6, .int .i64 k.1)], [⟨5, 1, .row 9 1 16 (((ns.take k.1).filter fun n => !decide (n ∈ U)).map dStr)⟩]⟩) (fun k => ns.length - k.1) ⟨0, by omega⟩ (Sub.lit (by simp)) ?_
    rintro ⟨k, hk⟩
    by_cases hlt : k < ns.length
    · obtain ⟨x, hx, hx', hxm⟩ := at_lt' hlt
      have htk : (ns.take (k + 1)).filter (fun n => !decide (n ∈ U)) = (ns.take k).filter (fun n => !decide (n ∈ U)) ++ (if x ∈ U then [] else [x]) := by
        rw [List.take_succ_eq_append_getElem hlt, hx', List.filter_append]
        by_cases hxu : x ∈ U <;> simp [hxu]
      have hl1 : ((ns.take k).filter fun n => !decide (n ∈ U)).length ≤ k := Nat.le_trans (List.length_filter_le ..) (List.length_take_le k ns)
      obtain ⟨V, hV⟩ : ∃ V, V = (ns.take k).filter fun n => !decide (n ∈ U) := ⟨_, rfl⟩
      rw [← hV] at htk hl1 ⊢
      have z1 : (V.length + 1) * 16 ≤ 150000000000000 := by omega
      have z2 : V.length + 1 ≤ 9223372036854775807 := by omega
      have a1 := among_pure U x hmem.1
      by_cases hxu : x ∈ U
      · simp only [hxu, decide_true] at a1
        rw [if_pos hxu, List.append_nil] at htk
        (repeat (first | refine DW_seq fun K hK => ?_ | (refine DW_r anWB1066 Tryz.mixed (by kernel_rfl) ?_; simp [anWB1066, hnt, dStr, hlt, hx, hx', z1, z2]; try simp (disch := omega) only [wrap64_in]) | refine DW_block ?_ | (refine DW_if ?_ ?_ ?_; (· (simp [hnt, dStr, hlt, hx, hx', z1, z2]; done)); (try (rotate_left; (· (intro hc; (try simp [hnt, dStr, hlt, hx, hx', z1, z2] at hc); done))))) | (refine DW_ret ?_; simp [Tryz.results66, hnt, dStr, hlt, hx, hx', z1, z2]) | ((first | refine DW_exit ?_ | refine DW_skip ?_); simp [hnt, dStr, hlt, hx, hx', z1, z2]) | (intro hc; (try simp [hnt, dStr, hlt, hx, hx', z1, z2] at hc); (try (exfalso; omega))) | ((first | refine callP_mk (a1) ?_ | (refine callP_wk (a1) ?_ ?_; (· (simp; done)))); try simp [hnt, dStr, hlt, hx, hx', z1, z2]) | (refine ⟨?_, ?_⟩; · omega) | omega | apply_assumption -exfalso -symm | (exfalso; omega)))
        refine Again.mk ⟨k + 1, by omega⟩ (Sub.lit (by simp only [htk]; simp)) (by simp; omega)
        (repeat (first | refine DW_seq fun K hK => ?_ | (refine DW_r anWB1066 Tryz.mixed (by kernel_rfl) ?_; simp [anWB1066, hnt]; try simp (disch := omega) only [wrap64_in]) | refine DW_block ?_ | (refine DW_if ?_ ?_ ?_; (· (simp [hnt]; done)); (try (rotate_left; (· (intro hc; (try simp [hnt] at hc); done))))) | (refine DW_ret ?_; simp [Tryz.results66, hnt]) | ((first | refine DW_exit ?_ | refine DW_skip ?_); simp [hnt]) | (intro hc; (try simp [hnt] at hc); (try (exfalso; omega))) | ((first | refine callP_mk (a1) ?_ | (refine callP_wk (a1) ?_ ?_; (· (simp; done)))); try simp [hnt]) | (refine ⟨?_, ?_⟩; · omega) | omega | apply_assumption -exfalso -symm | (exfalso; omega)))
      · simp only [hxu, decide_false] at a1
        rw [if_neg hxu] at htk
        (repeat (first | refine DW_seq fun K hK => ?_ | (refine DW_r anWB1066 Tryz.mixed (by kernel_rfl) ?_; simp [anWB1066, hnt, dStr, hlt, hx, hx', z1, z2]; try simp (disch := omega) only [wrap64_in]) | refine DW_block ?_ | (refine DW_if ?_ ?_ ?_; (· (simp [hnt, dStr, hlt, hx, hx', z1, z2]; done)); (try (rotate_left; (· (intro hc; (try simp [hnt, dStr, hlt, hx, hx', z1, z2] at hc); done))))) | (refine DW_ret ?_; simp [Tryz.results66, hnt, dStr, hlt, hx, hx', z1, z2]) | ((first | refine DW_exit ?_ | refine DW_skip ?_); simp [hnt, dStr, hlt, hx, hx', z1, z2]) | (intro hc; (try simp [hnt, dStr, hlt, hx, hx', z1, z2] at hc); (try (exfalso; omega))) | ((first | refine callP_mk (a1) ?_ | (refine callP_wk (a1) ?_ ?_; (· (simp; done)))); try simp [hnt, dStr, hlt, hx, hx', z1, z2]) | (refine ⟨?_, ?_⟩; · omega) | omega | apply_assumption -exfalso -symm | (exfalso; omega)))
        refine Again.mk ⟨k + 1, by omega⟩ (Sub.lit (by simp only [htk]; simp [dStr])) (by simp; omega)
        (repeat (first | refine DW_seq fun K hK => ?_ | (refine DW_r anWB1066 Tryz.mixed (by kernel_rfl) ?_; simp [anWB1066, hnt]; try simp (disch := omega) only [wrap64_in]) | refine DW_block ?_ | (refine DW_if ?_ ?_ ?_; (· (simp [hnt]; done)); (try (rotate_left; (· (intro hc; (try simp [hnt] at hc); done))))) | (refine DW_ret ?_; simp [Tryz.results66, hnt]) | ((first | refine DW_exit ?_ | refine DW_skip ?_); simp [hnt]) | (intro hc; (try simp [hnt] at hc); (try (exfalso; omega))) | ((first | refine callP_mk (a1) ?_ | (refine callP_wk (a1) ?_ ?_; (· (simp; done)))); try simp [hnt]) | (refine ⟨?_, ?_⟩; · omega) | omega | apply_assumption -exfalso -symm | (exfalso; omega)))
    · have hkk : k = ns.length := by omega
      subst hkk
      rw [List.take_length, ← hRd]
      (repeat (first | refine DW_seq fun K hK => ?_ | (refine DW_r anWB1066 Tryz.mixed (by kernel_rfl) ?_; simp [anWB1066, hnt]; try simp (disch := omega) only [wrap64_in]) | refine DW_block ?_ | (refine DW_if ?_ ?_ ?_; (· (simp [hnt]; done)); (try (rotate_left; (· (intro hc; (try simp [hnt] at hc); done))))) | (refine DW_ret ?_; simp [Tryz.results66, hnt]) | ((first | refine DW_exit ?_ | refine DW_skip ?_); simp [hnt]) | (intro hc; (try simp [hnt] at hc); (try (exfalso; omega))) | (refine ⟨?_, ?_⟩; · omega) | omega | apply_assumption -exfalso -symm | (exfalso; omega)))

def textN (s n : ByteArray) : ByteArray := s ++ n ++ ⟨#[32, 59, 10]⟩
def textE (s : ByteArray) (x : Edge) : ByteArray := s ++ x.fr ++ ⟨#[32]⟩ ++ x.lb ++ ⟨#[32]⟩ ++ x.to ++ ⟨#[32, 59, 10]⟩
def textB (g : Edges) : ByteArray := g.edges.foldl textE ((loneL g).foldl textN ⟨#[]⟩)
theorem size3 : (⟨#[32, 59, 10]⟩ : ByteArray).size = 3 := rfl
theorem size1 : (⟨#[32]⟩ : ByteArray).size = 1 := rfl
structure SmallG (g : Edges) : Prop where
  n1 : g.nodes.length ≤ 32
  n2 : ∀ n ∈ g.nodes, n.size ≤ 16
  e1 : g.edges.length ≤ 256
  e2 : ∀ e ∈ g.edges, e.fr.size ≤ 16 ∧ e.lb.size ≤ 16 ∧ e.to.size ≤ 16
theorem lone_small {g : Edges} (h : SmallG g) : (loneL g).length ≤ 32 ∧ ∀ n ∈ loneL g, n.size ≤ 16 := by
  unfold loneL
  exact ⟨Nat.le_trans (List.length_filter_le ..) h.n1, fun n hn => h.n2 n (List.mem_filter.1 hn).1⟩
theorem foldl_take {α β : Type} {f : β → α → β} {b : β} {l : List α} {k : Nat} {x : α} (hx : l[k]? = some x) : (l.take (k + 1)).foldl f b = f ((l.take k).foldl f b) x := by
  obtain ⟨h, rfl⟩ := List.getElem?_eq_some_iff.1 hx
  rw [List.take_succ_eq_append_getElem h, List.foldl_append]
  rfl
theorem textN_size (s n : ByteArray) : (textN s n).size = s.size + n.size + 3 := by simp [textN, ByteArray.size_append]; rfl
theorem textE_size (s : ByteArray) (x : Edge) : (textE s x).size = s.size + x.fr.size + x.lb.size + x.to.size + 5 := by
  simp only [textE, ByteArray.size_append, size3, size1]
  omega
theorem lone_size : ∀ (l : List ByteArray) (s : ByteArray), (∀ n ∈ l, n.size ≤ 16) → (l.foldl textN s).size ≤ s.size + 19 * l.length
  | [], s, _ => by simp
  | n :: l, s, h => by
    have h1 := lone_size l (textN s n) fun m hm => h m (List.mem_cons_of_mem _ hm)
    have h2 := h n List.mem_cons_self
    rw [textN_size] at h1
    simp only [List.foldl_cons, List.length_cons]
    omega
theorem edge_size : ∀ (l : List Edge) (s : ByteArray), (∀ e ∈ l, e.fr.size ≤ 16 ∧ e.lb.size ≤ 16 ∧ e.to.size ≤ 16) → (l.foldl textE s).size ≤ s.size + 53 * l.length
  | [], s, _ => by simp
  | n :: l, s, h => by
    have h1 := edge_size l (textE s n) fun m hm => h m (List.mem_cons_of_mem _ hm)
    have h2 := h n List.mem_cons_self
    rw [textE_size] at h1
    simp only [List.foldl_cons, List.length_cons]
    omega

def anWB1053 : Ann := ⟨[], [⟨10, [7], [], []⟩]⟩
set_option maxHeartbeats 2000000 in
theorem text148_pure (g : Edges) (hg : SmallG g) : DPure Tryz.prog 53 [.agg (dGr g)] (.str (textB g)) := by
  refine DPure_introF [] (fn := Tryz.f53) Tryz.func53 rfl Tryz.call53 (by simp [Tryz.ntmps53]) (by simp [mx]) ?_
  intro hwf B hnt
  simp only [Tryz.ntmps53] at hnt
  clear hwf
  simp only [argS]
  obtain ⟨R, hRR⟩ : ∃ R, R = textB g := ⟨_, rfl⟩
  rw [← hRR]
  have h1 := lone182_pure g
  obtain ⟨s1, s2⟩ := lone_small hg
  obtain ⟨L, hL⟩ : ∃ L, L = loneL g := ⟨_, rfl⟩
  have hR : textB g = g.edges.foldl textE (L.foldl textN ⟨#[]⟩) := by rw [hL]; rfl
  rw [hR] at hRR
  clear hR
  rw [← hL] at h1 s1 s2
  obtain ⟨n1, n2, n3, n4⟩ := hg
  obtain ⟨ns, es⟩ := g
  simp only [dGr] at h1 n3 n4 hRR
  have hsL := lone_size L ⟨#[]⟩ s2
  rw [show (⟨#[]⟩ : ByteArray).size = 0 from rfl] at hsL
  have e0 : (⟨#[]⟩ : ByteArray).size ≤ maxLen := Nat.zero_le _
  have m3 : 3 ≤ maxLen := by unfold maxLen; omega
  have m1 : 1 ≤ maxLen := by unfold maxLen; omega
  (repeat (first | refine DW_seq fun K hK => ?_ | (refine DW_r anWB1053 Tryz.mixed (by kernel_rfl) ?_; simp [anWB1053, hnt, dGr, e0]; try simp (disch := omega) only [wrap64_in]) | refine DW_block ?_ | (refine DW_if ?_ ?_ ?_; (· (simp [hnt, dGr, e0]; done)); (try (rotate_left; (· (intro hc; (try simp [hnt, dGr, e0] at hc); done))))) | (refine DW_ret ?_; simp [Tryz.results53, hnt, dGr, e0]) | ((first | refine DW_exit ?_ | refine DW_skip ?_); simp [hnt, dGr, e0]) | (intro hc; (try simp [hnt, dGr, e0] at hc); (try (exfalso; omega))) | ((first | refine callP_mk (h1) ?_ | (refine callP_wk (h1) ?_ ?_; (· (simp; done)))); try simp [hnt, dGr, e0]) | (refine ⟨?_, ?_⟩; · omega) | omega | apply_assumption -exfalso -symm | (exfalso; omega)))
  refine DW_loop (X := {k : Nat // k ≤ L.length}) (fun k => ⟨[(1, .ref [dStrs ns, dEds es]), (3, .str ((L.take k.1).foldl textN ⟨#[]⟩)), (4, dStrs L), (5, .int .i64 k.1)], []⟩) (fun k => L.length - k.1) ⟨0, by omega⟩ (Sub.lit (by simp)) ?_
  rintro ⟨k, hk⟩
  by_cases hlt : k < L.length
  · obtain ⟨x, hx, hx', hxm⟩ := at_lt' hlt
    have htk := foldl_take (f := textN) (b := ⟨#[]⟩) hx
    have hsz := lone_size (L.take k) ⟨#[]⟩ fun n hn => s2 n (List.mem_of_mem_take hn)
    rw [show (⟨#[]⟩ : ByteArray).size = 0 from rfl, List.length_take] at hsz
    obtain ⟨T, hT⟩ : ∃ T, T = (L.take k).foldl textN ⟨#[]⟩ := ⟨_, rfl⟩
    rw [← hT] at htk hsz ⊢
    have hxs := s2 x hxm
    have q1 : T.size + x.size ≤ maxLen := by unfold maxLen; omega
    have q2 : T.size + x.size + 3 ≤ maxLen := by unfold maxLen; omega
    (repeat (first | refine DW_seq fun K hK => ?_ | (refine DW_r anWB1053 Tryz.mixed (by kernel_rfl) ?_; simp [anWB1053, hnt, dStr, hlt, hx, hx', q1, q2, size3, ByteArray.size_append, m3, m1]; try simp (disch := omega) only [wrap64_in]) | refine DW_block ?_ | (refine DW_if ?_ ?_ ?_; (· (simp [hnt, dStr, hlt, hx, hx', q1, q2, size3, ByteArray.size_append, m3, m1]; done)); (try (rotate_left; (· (intro hc; (try simp [hnt, dStr, hlt, hx, hx', q1, q2, size3, ByteArray.size_append, m3, m1] at hc); done))))) | (refine DW_ret ?_; simp [Tryz.results53, hnt, dStr, hlt, hx, hx', q1, q2, size3, ByteArray.size_append, m3, m1]) | ((first | refine DW_exit ?_ | refine DW_skip ?_); simp [hnt, dStr, hlt, hx, hx', q1, q2, size3, ByteArray.size_append, m3, m1]) | (intro hc; (try simp [hnt, dStr, hlt, hx, hx', q1, q2, size3, ByteArray.size_append, m3, m1] at hc); (try (exfalso; omega))) | (refine ⟨?_, ?_⟩; · omega) | omega | apply_assumption -exfalso -symm | (exfalso; omega)))
    refine Again.mk ⟨k + 1, by omega⟩ (Sub.lit (by simp [htk, textN])) (by simp; omega)
    (repeat (first | refine DW_seq fun K hK => ?_ | (refine DW_r anWB1053 Tryz.mixed (by kernel_rfl) ?_; simp [anWB1053, hnt]; try simp (disch := omega) only [wrap64_in]) | refine DW_block ?_ | (refine DW_if ?_ ?_ ?_; (· (simp [hnt]; done)); (try (rotate_left; (· (intro hc; (try simp [hnt] at hc); done))))) | (refine DW_ret ?_; simp [Tryz.results53, hnt]) | ((first | refine DW_exit ?_ | refine DW_skip ?_); simp [hnt]) | (intro hc; (try simp [hnt] at hc); (try (exfalso; omega))) | (refine ⟨?_, ?_⟩; · omega) | omega | apply_assumption -exfalso -symm | (exfalso; omega)))
  · have hkk : k = L.length := by omega
    subst hkk
    rw [List.take_length]
    obtain ⟨S, hS⟩ : ∃ S, S = L.foldl textN ⟨#[]⟩ := ⟨_, rfl⟩
    rw [← hS] at hsL hRR ⊢
    clear hS
    (repeat (first | refine DW_seq fun K hK => ?_ | (refine DW_r anWB1053 Tryz.mixed (by kernel_rfl) ?_; simp [anWB1053, hnt]; try simp (disch := omega) only [wrap64_in]) | refine DW_block ?_ | (refine DW_if ?_ ?_ ?_; (· (simp [hnt]; done)); (try (rotate_left; (· (intro hc; (try simp [hnt] at hc); done))))) | (refine DW_ret ?_; simp [Tryz.results53, hnt]) | ((first | refine DW_exit ?_ | refine DW_skip ?_); simp [hnt]) | (intro hc; (try simp [hnt] at hc); (try (exfalso; omega))) | (refine ⟨?_, ?_⟩; · omega) | omega | apply_assumption -exfalso -symm | (exfalso; omega)))
    refine DW_loop (X := {k : Nat // k ≤ es.length}) (fun k => ⟨[(1, .ref [dStrs ns, dEds es]), (3, .str ((es.take k.1).foldl textE S)), (6, .int .i64 k.1)], []⟩) (fun k => es.length - k.1) ⟨0, by omega⟩ (Sub.lit (by simp)) ?_
    rintro ⟨k, hk⟩
    by_cases hlt : k < es.length
    · obtain ⟨x, hx, hx', hxm⟩ := at_lt' hlt
      have htk := foldl_take (f := textE) (b := S) hx
      have hsz := edge_size (es.take k) S fun n hn => n4 n (List.mem_of_mem_take hn)
      rw [List.length_take] at hsz
      obtain ⟨T, hT⟩ : ∃ T, T = (es.take k).foldl textE S := ⟨_, rfl⟩
      rw [← hT] at htk hsz ⊢
      obtain ⟨x1, x2, x3⟩ := n4 x hxm
      have q1 : T.size + x.fr.size ≤ maxLen := by unfold maxLen; omega
      have q2 : T.size + x.fr.size + 1 ≤ maxLen := by unfold maxLen; omega
      have q3 : T.size + x.fr.size + 1 + x.lb.size ≤ maxLen := by unfold maxLen; omega
      have q4 : T.size + x.fr.size + 1 + x.lb.size + 1 ≤ maxLen := by unfold maxLen; omega
      have q5 : T.size + x.fr.size + 1 + x.lb.size + 1 + x.to.size ≤ maxLen := by unfold maxLen; omega
      have q6 : T.size + x.fr.size + 1 + x.lb.size + 1 + x.to.size + 3 ≤ maxLen := by unfold maxLen; omega
      (repeat (first | refine DW_seq fun K hK => ?_ | (refine DW_r anWB1053 Tryz.mixed (by kernel_rfl) ?_; simp [anWB1053, hnt, dEdge, hlt, hx, hx', q1, q2, q3, q4, q5, q6, size3, size1, ByteArray.size_append, m3, m1]; try simp (disch := omega) only [wrap64_in]) | refine DW_block ?_ | (refine DW_if ?_ ?_ ?_; (· (simp [hnt, dEdge, hlt, hx, hx', q1, q2, q3, q4, q5, q6, size3, size1, ByteArray.size_append, m3, m1]; done)); (try (rotate_left; (· (intro hc; (try simp [hnt, dEdge, hlt, hx, hx', q1, q2, q3, q4, q5, q6, size3, size1, ByteArray.size_append, m3, m1] at hc); done))))) | (refine DW_ret ?_; simp [Tryz.results53, hnt, dEdge, hlt, hx, hx', q1, q2, q3, q4, q5, q6, size3, size1, ByteArray.size_append, m3, m1]) | ((first | refine DW_exit ?_ | refine DW_skip ?_); simp [hnt, dEdge, hlt, hx, hx', q1, q2, q3, q4, q5, q6, size3, size1, ByteArray.size_append, m3, m1]) | (intro hc; (try simp [hnt, dEdge, hlt, hx, hx', q1, q2, q3, q4, q5, q6, size3, size1, ByteArray.size_append, m3, m1] at hc); (try (exfalso; omega))) | (refine ⟨?_, ?_⟩; · omega) | omega | apply_assumption -exfalso -symm | (exfalso; omega)))
      refine Again.mk ⟨k + 1, by omega⟩ (Sub.lit (by simp [htk, textE])) (by simp; omega)
      (repeat (first | refine DW_seq fun K hK => ?_ | (refine DW_r anWB1053 Tryz.mixed (by kernel_rfl) ?_; simp [anWB1053, hnt]; try simp (disch := omega) only [wrap64_in]) | refine DW_block ?_ | (refine DW_if ?_ ?_ ?_; (· (simp [hnt]; done)); (try (rotate_left; (· (intro hc; (try simp [hnt] at hc); done))))) | (refine DW_ret ?_; simp [Tryz.results53, hnt]) | ((first | refine DW_exit ?_ | refine DW_skip ?_); simp [hnt]) | (intro hc; (try simp [hnt] at hc); (try (exfalso; omega))) | (refine ⟨?_, ?_⟩; · omega) | omega | apply_assumption -exfalso -symm | (exfalso; omega)))
    · have hkk : k = es.length := by omega
      subst hkk
      rw [List.take_length, ← hRR]
      (repeat (first | refine DW_seq fun K hK => ?_ | (refine DW_r anWB1053 Tryz.mixed (by kernel_rfl) ?_; simp [anWB1053, hnt]; try simp (disch := omega) only [wrap64_in]) | refine DW_block ?_ | (refine DW_if ?_ ?_ ?_; (· (simp [hnt]; done)); (try (rotate_left; (· (intro hc; (try simp [hnt] at hc); done))))) | (refine DW_ret ?_; simp [Tryz.results53, hnt]) | ((first | refine DW_exit ?_ | refine DW_skip ?_); simp [hnt]) | (intro hc; (try simp [hnt] at hc); (try (exfalso; omega))) | (refine ⟨?_, ?_⟩; · omega) | omega | apply_assumption -exfalso -symm | (exfalso; omega)))
end Go.Proofs.YtffdjbdokgbibaaGreat
end

section
/- graphs by definition: Check, Way -/

set_option linter.unusedSimpArgs false
set_option linter.unusedVariables false
namespace Go.Proofs.YtffdjbdokgbibaaGreat
open Go Go.Dm
attribute [local irreducible] DW callP callS
set_option maxRecDepth 100000

def capsI (g : Edges) : Int := if 32 < g.nodes.length then 260 else if 16 < (uniqS (labelsL g.edges)).length then 261 else if 256 < g.edges.length then 262 else if 2048 < (textB g).size then 174 else 0
def checkI (g : Edges) : Int := if formB g then (if namedB g then capsI g else 173) else 2
theorem small_of {g : Edges} (h : namedB g = true) (h1 : g.nodes.length ≤ 32) (h2 : g.edges.length ≤ 256) : SmallG g := by
  unfold namedB at h
  simp only [Bool.and_eq_true, List.all_eq_true] at h
  have hn : ∀ s, nameOK s = true → s.size ≤ 16 := fun s hs => by unfold nameOK at hs; simp only [Bool.and_eq_true, decide_eq_true_eq] at hs; exact hs.1.2
  refine ⟨h1, fun n hm => hn n (h.1 n hm), h2, fun e he => ?_⟩
  have := h.2 e he
  unfold edgeOK labelOK at this
  simp only [Bool.and_eq_true] at this
  exact ⟨hn _ this.1, hn _ this.2.1.1, hn _ this.2.2⟩

def anWB1130 : Ann := ⟨[], []⟩
theorem caps109_pure (g : Edges) (hn : namedB g = true) : DPure Tryz.prog 30 [.agg (dGr g)] (.int .i64 (capsI g)) := by
  refine DPure_introF [] (fn := Tryz.f30) Tryz.func30 rfl Tryz.call30 (by simp [Tryz.ntmps30]) (by simp [mx]) ?_
  intro hwf B hnt
  simp only [Tryz.ntmps30] at hnt
  clear hwf
  simp only [argS]
  unfold capsI
  have h1 := labels147_pure g.edges
  by_cases c1 : 32 < g.nodes.length
  · have d1 : (32 : Int) < g.nodes.length := by omega
    (repeat (first | refine DW_seq fun K hK => ?_ | (refine DW_r anWB1130 Tryz.mixed (by kernel_rfl) ?_; simp [anWB1130, hnt, dGr, c1, d1]; try simp (disch := omega) only [wrap64_in]) | refine DW_block ?_ | (refine DW_if ?_ ?_ ?_; (· (simp [hnt, dGr, c1, d1]; done)); (try (rotate_left; (· (intro hc; (try simp [hnt, dGr, c1, d1] at hc); done))))) | (refine DW_ret ?_; simp [Tryz.results30, hnt, dGr, c1, d1]) | ((first | refine DW_exit ?_ | refine DW_skip ?_); simp [hnt, dGr, c1, d1]) | (intro hc; (try simp [hnt, dGr, c1, d1] at hc); (try (exfalso; omega))) | (refine ⟨?_, ?_⟩; · omega) | omega | apply_assumption -exfalso -symm | (exfalso; omega)))
  · have d1 : ¬ (32 : Int) < g.nodes.length := by omega
    obtain ⟨U, hU⟩ : ∃ U, U = uniqS (labelsL g.edges) := ⟨_, rfl⟩
    rw [← hU] at h1 ⊢
    clear hU
    by_cases c2 : 16 < U.length
    · have d2 : (16 : Int) < U.length := by omega
      (repeat (first | refine DW_seq fun K hK => ?_ | (refine DW_r anWB1130 Tryz.mixed (by kernel_rfl) ?_; simp [anWB1130, hnt, dGr, c1, d1, c2, d2]; try simp (disch := omega) only [wrap64_in]) | refine DW_block ?_ | (refine DW_if ?_ ?_ ?_; (· (simp [hnt, dGr, c1, d1, c2, d2]; done)); (try (rotate_left; (· (intro hc; (try simp [hnt, dGr, c1, d1, c2, d2] at hc); done))))) | (refine DW_ret ?_; simp [Tryz.results30, hnt, dGr, c1, d1, c2, d2]) | ((first | refine DW_exit ?_ | refine DW_skip ?_); simp [hnt, dGr, c1, d1, c2, d2]) | (intro hc; (try simp [hnt, dGr, c1, d1, c2, d2] at hc); (try (exfalso; omega))) | ((first | refine callP_mk (h1) ?_ | (refine callP_wk (h1) ?_ ?_; (· (simp; done)))); try simp [hnt, dGr, c1, d1, c2, d2]) | (refine ⟨?_, ?_⟩; · omega) | omega | apply_assumption -exfalso -symm | (exfalso; omega)))
    · have d2 : ¬ (16 : Int) < U.length := by omega
      by_cases c3 : 256 < g.edges.length
      · have d3 : (256 : Int) < g.edges.length := by omega
        (repeat (first | refine DW_seq fun K hK => ?_ | (refine DW_r anWB1130 Tryz.mixed (by kernel_rfl) ?_; simp [anWB1130, hnt, dGr, c1, d1, c2, d2, c3, d3]; try simp (disch := omega) only [wrap64_in]) | refine DW_block ?_ | (refine DW_if ?_ ?_ ?_; (· (simp [hnt, dGr, c1, d1, c2, d2, c3, d3]; done)); (try (rotate_left; (· (intro hc; (try simp [hnt, dGr, c1, d1, c2, d2, c3, d3] at hc); done))))) | (refine DW_ret ?_; simp [Tryz.results30, hnt, dGr, c1, d1, c2, d2, c3, d3]) | ((first | refine DW_exit ?_ | refine DW_skip ?_); simp [hnt, dGr, c1, d1, c2, d2, c3, d3]) | (intro hc; (try simp [hnt, dGr, c1, d1, c2, d2, c3, d3] at hc); (try (exfalso; omega))) | ((first | refine callP_mk (h1) ?_ | (refine callP_wk (h1) ?_ ?_; (· (simp; done)))); try simp [hnt, dGr, c1, d1, c2, d2, c3, d3]) | (refine ⟨?_, ?_⟩; · omega) | omega | apply_assumption -exfalso -symm | (exfalso; omega)))
      · have d3 : ¬ (256 : Int) < g.edges.length := by omega
        have h2 := text148_pure g (small_of hn (by omega) (by omega))
        obtain ⟨T, hT⟩ : ∃ T, T = textB g := ⟨_, rfl⟩
        rw [← hT] at h2 ⊢
        clear hT
        simp only [dGr] at h2
        by_cases c4 : 2048 < T.size
        · have d4 : (2048 : Int) < T.size := by omega
          (repeat (first | refine DW_seq fun K hK => ?_ | (refine DW_r anWB1130 Tryz.mixed (by kernel_rfl) ?_; simp [anWB1130, hnt, dGr, c1, d1, c2, d2, c3, d3, c4, d4]; try simp (disch := omega) only [wrap64_in]) | refine DW_block ?_ | (refine DW_if ?_ ?_ ?_; (· (simp [hnt, dGr, c1, d1, c2, d2, c3, d3, c4, d4]; done)); (try (rotate_left; (· (intro hc; (try simp [hnt, dGr, c1, d1, c2, d2, c3, d3, c4, d4] at hc); done))))) | (refine DW_ret ?_; simp [Tryz.results30, hnt, dGr, c1, d1, c2, d2, c3, d3, c4, d4]) | ((first | refine DW_exit ?_ | refine DW_skip ?_); simp [hnt, dGr, c1, d1, c2, d2, c3, d3, c4, d4]) | (intro hc; (try simp [hnt, dGr, c1, d1, c2, d2, c3, d3, c4, d4] at hc); (try (exfalso; omega))) | ((first | refine callP_mk (h1) ?_ | refine callP_mk (h2) ?_ | (refine callP_wk (h1) ?_ ?_; (· (simp; done))) | (refine callP_wk (h2) ?_ ?_; (· (simp; done)))); try simp [hnt, dGr, c1, d1, c2, d2, c3, d3, c4, d4]) | (refine ⟨?_, ?_⟩; · omega) | omega | apply_assumption -exfalso -symm | (exfalso; omega)))
        · have d4 : ¬ (2048 : Int) < T.size := by omega
          (repeat (first | refine DW_seq fun K hK => ?_ | (refine DW_r anWB1130 Tryz.mixed (by kernel_rfl) ?_; simp [anWB1130, hnt, dGr, c1, d1, c2, d2, c3, d3, c4, d4]; try simp (disch := omega) only [wrap64_in]) | refine DW_block ?_ | (refine DW_if ?_ ?_ ?_; (· (simp [hnt, dGr, c1, d1, c2, d2, c3, d3, c4, d4]; done)); (try (rotate_left; (· (intro hc; (try simp [hnt, dGr, c1, d1, c2, d2, c3, d3, c4, d4] at hc); done))))) | (refine DW_ret ?_; simp [Tryz.results30, hnt, dGr, c1, d1, c2, d2, c3, d3, c4, d4]) | ((first | refine DW_exit ?_ | refine DW_skip ?_); simp [hnt, dGr, c1, d1, c2, d2, c3, d3, c4, d4]) | (intro hc; (try simp [hnt, dGr, c1, d1, c2, d2, c3, d3, c4, d4] at hc); (try (exfalso; omega))) | ((first | refine callP_mk (h1) ?_ | refine callP_mk (h2) ?_ | (refine callP_wk (h1) ?_ ?_; (· (simp; done))) | (refine callP_wk (h2) ?_ ?_; (· (simp; done)))); try simp [hnt, dGr, c1, d1, c2, d2, c3, d3, c4, d4]) | (refine ⟨?_, ?_⟩; · omega) | omega | apply_assumption -exfalso -symm | (exfalso; omega)))

def wayI (g : Edges) (a b : ByteArray) (way : List Edge) : Int := if checkI g = 0 then (if endsI g a b = 0 then (if 64 < way.length then 3 else if isWay g a b way then 0 else 370) else endsI g a b) else checkI g
end Go.Proofs.YtffdjbdokgbibaaGreat
end

section
/- the program's labels of a graph -/

set_option linter.unusedSimpArgs false
set_option linter.unusedVariables false
namespace Go.Proofs.YtffdjbdokgbibaaGreat
open Go Go.Dm
attribute [local irreducible] DW callP callS
set_option maxRecDepth 100000

def anWB1259 : Ann := ⟨[], []⟩
set_option maxHeartbeats 4000000 in
theorem compact175_spec (l : List ByteArray) :
    DSpec Tryz.prog (.func 59) [.osl 0 0] [⟨0, 0, .row 9 1 16 (l.map dStr)⟩] (dStrs (compL eqT l)) [] := by
  refine DSpec_introW [0] [] (fn := Tryz.f59) Tryz.func59 rfl Tryz.call59 (by simp [Tryz.ntmps59]) (by simp) (by simp) ?_
  intro hwf hwo B hnt
  simp only [argS]
  have hl : l.length ≤ 9223372036854775807 := by
    simp only [wfOwn, maxLen, List.length_map] at hwo
    omega
  clear hwo
  by_cases hl2 : l.length < 2
  · have hcl : compL eqT l = l := by
      match l, hl2 with
      | [], _ => rfl
      | [x], _ => rfl
    (repeat (first | refine DW_seq fun K hK => ?_ | (refine DW_r anWB1259 Tryz.mixed (by kernel_rfl) ?_; simp [anWB1259, hnt, hl2, hcl]; try simp (disch := omega) only [wrap64_in]) | refine DW_block ?_ | (refine DW_if ?_ ?_ ?_; (· (simp [hnt, hl2, hcl]; done)); (try (rotate_left; (· (intro hc; (try simp [hnt, hl2, hcl] at hc); done))))) | (refine DW_ret ?_; simp [Tryz.results59, hnt, hl2, hcl]) | ((first | refine DW_exit ?_ | refine DW_skip ?_); simp [hnt, hl2, hcl]) | (intro hc; (try simp [hnt, hl2, hcl] at hc); (try (exfalso; omega))) | (refine ⟨?_, ?_⟩; · omega) | omega | apply_assumption -exfalso -symm | (exfalso; omega)))
  have hl2' : ¬ (l.length : Int) < 2 := by omega
  obtain ⟨R0, hR0⟩ : ∃ R0, R0 = compL eqT l := ⟨_, rfl⟩
  rw [← hR0]
  (repeat (first | refine DW_seq fun K hK => ?_ | (refine DW_r anWB1259 Tryz.mixed (by kernel_rfl) ?_; simp [anWB1259, hnt, hl2, hl2']; try simp (disch := omega) only [wrap64_in]) | refine DW_block ?_ | (refine DW_if ?_ ?_ ?_; (· (simp [hnt, hl2, hl2']; done)); (try (rotate_left; (· (intro hc; (try simp [hnt, hl2, hl2'] at hc); done))))) | (refine DW_ret ?_; simp [Tryz.results59, hnt, hl2, hl2']) | ((first | refine DW_exit ?_ | refine DW_skip ?_); simp [hnt, hl2, hl2']) | (intro hc; (try simp [hnt, hl2, hl2'] at hc); (try (exfalso; omega))) | (refine ⟨?_, ?_⟩; · omega) | omega | apply_assumption -exfalso -symm | (exfalso; omega)))
  refine DW_loop (X := {k : Nat // 1 ≤ k ∧ k ≤ l.length ∧ compL eqT (l.take k) = l.take k}) (fun k => ⟨[(0, .osl 0 0), (3, .int .i64 k.1)], [⟨0, 0, .row 9 1 16 (l.map dStr)⟩]⟩) (fun k => l.length - k.1) ⟨1, by
    obtain ⟨x, t, rfl⟩ : ∃ x t, l = x :: t := by
      cases l with
      | nil => simp at hl2
      | cons x t => exact ⟨x, t, rfl⟩
    simp [compL, compGo]⟩ (Sub.lit (by simp)) ?_
  rintro ⟨k, hk1, hk, hck⟩
  by_cases hlt : k < l.length
  · obtain ⟨q, hq, hq', hqm⟩ := at_lt' hlt
    obtain ⟨p, hp, hp', hpm⟩ := at_lt' (show k - 1 < l.length by omega)
    have hwr : IntKind.i64.wrap ((k : Int) - 1) = (k : Int) - 1 := wrap64_in (by omega) (by omega)
    have hk0 : ((k : Int) - 1).toNat = k - 1 := by omega
    have hs := compL_snoc (e := eqT) (by omega) hp hq
    have hb1 : (0 : Int) ≤ (k : Int) - 1 := by omega
    have hb2 : (k : Int) - 1 < l.length := by omega
    cases hepq : eqT q p
    · rw [hepq] at hs
      simp only [Bool.false_eq_true, if_false] at hs
      have he2 : (q == p) = false := hepq
      (repeat (first | refine DW_seq fun K hK => ?_ | (refine DW_r anWB1259 Tryz.mixed (by kernel_rfl) ?_; simp [anWB1259, hnt, dStr, hlt, hq', hp', hp, hq, hk0, hwr, hb1, hb2, he2]; try simp (disch := omega) only [wrap64_in]) | refine DW_block ?_ | (refine DW_if ?_ ?_ ?_; (· (simp [hnt, dStr, hlt, hq', hp', hp, hq, hk0, hwr, hb1, hb2, he2]; done)); (try (rotate_left; (· (intro hc; (try simp [hnt, dStr, hlt, hq', hp', hp, hq, hk0, hwr, hb1, hb2, he2] at hc); done))))) | (refine DW_ret ?_; simp [Tryz.results59, hnt, dStr, hlt, hq', hp', hp, hq, hk0, hwr, hb1, hb2, he2]) | ((first | refine DW_exit ?_ | refine DW_skip ?_); simp [hnt, dStr, hlt, hq', hp', hp, hq, hk0, hwr, hb1, hb2, he2]) | (intro hc; (try simp [hnt, dStr, hlt, hq', hp', hp, hq, hk0, hwr, hb1, hb2, he2] at hc); (try (exfalso; omega))) | (refine ⟨?_, ?_⟩; · omega) | omega | apply_assumption -exfalso -symm | (exfalso; omega)))
      refine Again.mk ⟨k + 1, by omega, by omega, by rw [hs, hck, List.take_add_one, hq]; rfl⟩ (Sub.lit (by simp)) (by simp; omega)
      (repeat (first | refine DW_seq fun K hK => ?_ | (refine DW_r anWB1259 Tryz.mixed (by kernel_rfl) ?_; simp [anWB1259, hnt]; try simp (disch := omega) only [wrap64_in]) | refine DW_block ?_ | (refine DW_if ?_ ?_ ?_; (· (simp [hnt]; done)); (try (rotate_left; (· (intro hc; (try simp [hnt] at hc); done))))) | (refine DW_ret ?_; simp [Tryz.results59, hnt]) | ((first | refine DW_exit ?_ | refine DW_skip ?_); simp [hnt]) | (intro hc; (try simp [hnt] at hc); (try (exfalso; omega))) | (refine ⟨?_, ?_⟩; · omega) | omega | apply_assumption -exfalso -symm | (exfalso; omega)))
    · rw [hepq] at hs
      simp only [if_true, List.append_nil] at hs
      have he2 : (q == p) = true := hepq
      (repeat (first | refine DW_seq fun K hK => ?_ | (refine DW_r anWB1259 Tryz.mixed (by kernel_rfl) ?_; simp [anWB1259, hnt, dStr, hlt, hq', hp', hp, hq, hk0, hwr, hb1, hb2, he2]; try simp (disch := omega) only [wrap64_in]) | refine DW_block ?_ | (refine DW_if ?_ ?_ ?_; (· (simp [hnt, dStr, hlt, hq', hp', hp, hq, hk0, hwr, hb1, hb2, he2]; done)); (try (rotate_left; (· (intro hc; (try simp [hnt, dStr, hlt, hq', hp', hp, hq, hk0, hwr, hb1, hb2, he2] at hc); done))))) | (refine DW_ret ?_; simp [Tryz.results59, hnt, dStr, hlt, hq', hp', hp, hq, hk0, hwr, hb1, hb2, he2]) | ((first | refine DW_exit ?_ | refine DW_skip ?_); simp [hnt, dStr, hlt, hq', hp', hp, hq, hk0, hwr, hb1, hb2, he2]) | (intro hc; (try simp [hnt, dStr, hlt, hq', hp', hp, hq, hk0, hwr, hb1, hb2, he2] at hc); (try (exfalso; omega))) | (refine ⟨?_, ?_⟩; · omega) | omega | apply_assumption -exfalso -symm | (exfalso; omega)))
      clear hwr hk0 hb1 hb2
      refine DW_loop (X := {x : Nat × Nat × List ByteArray // 1 ≤ x.1 ∧ k + x.1 ≤ l.length ∧ x.2.1 < k + x.1 ∧ k ≤ x.2.1 ∧ x.2.2.length = l.length ∧ x.2.2.take x.2.1 = compL eqT (l.take (k + x.1)) ∧ ∀ j, k + x.1 ≤ j + 1 → x.2.2[j]? = l[j]?}) (fun x => ⟨[(0, .osl 0 0), (3, .int .i64 x.1.2.1), (4, .vw 0 0 1 16 k (l.length - k)), (5, .int .i64 x.1.1)], [⟨0, 0, .row 9 1 16 (x.1.2.2.map dStr)⟩]⟩) (fun x => l.length - x.1.1)
        ⟨(1, k, l), show 1 ≤ 1 ∧ k + 1 ≤ l.length ∧ k < k + 1 ∧ k ≤ k ∧ l.length = l.length ∧ l.take k = compL eqT (l.take (k + 1)) ∧ (∀ j, k + 1 ≤ j + 1 → l[j]? = l[j]?) from ⟨by omega, by omega, by omega, by omega, rfl, by rw [hs, hck], fun _ _ => rfl⟩⟩ (Sub.lit (by simp)) ?_
      rintro ⟨⟨m, kk, R⟩, x1, x2, x3, x4, x5, x6, x7⟩
      simp only at x1 x2 x3 x4 x5 x6 x7 ⊢
      have hv : k + (l.length - k) ≤ l.length := by omega
      by_cases hm : m < l.length - k
      · obtain ⟨y, hy, hy', hym⟩ := at_lt' (show k + m < l.length by omega)
        obtain ⟨z, hz, hz', hzm⟩ := at_lt' (show k + m - 1 < l.length by omega)
        obtain ⟨c0, hc0, _, _⟩ := at_lt' (show kk < R.length by omega)
        have hRy : R[k + m]? = some y := by rw [x7 _ (by omega)]; exact hy
        have hRz : R[k + (m - 1)]? = some z := by rw [x7 _ (by omega), show k + (m - 1) = k + m - 1 by omega]; exact hz
        have hRy' : R[k + m]'(by omega) = y := (List.getElem?_eq_some_iff.1 hRy).2
        have hRz' : R[k + (m - 1)]'(by omega) = z := (List.getElem?_eq_some_iff.1 hRz).2
        have hwr : IntKind.i64.wrap ((m : Int) - 1) = (m : Int) - 1 := wrap64_in (by omega) (by omega)
        have hk0 : ((m : Int) - 1).toNat = m - 1 := by omega
        have hb1 : (0 : Int) ≤ (m : Int) - 1 := by omega
        have hb2 : (m : Int) - 1 < ((l.length - k : Nat) : Int) := by omega
        have hs2 := compL_snoc (e := eqT) (by omega) hz hy
        rw [← x6] at hs2
        have hkk : kk < l.length := by omega
        cases heyz : eqT y z
        · rw [heyz] at hs2
          simp only [Bool.false_eq_true, if_false] at hs2
          have he3 : (y == z) = false := heyz
          (repeat (first | refine DW_seq fun K hK => ?_ | (refine DW_r anWB1259 Tryz.mixed (by kernel_rfl) ?_; simp [anWB1259, hnt, dStr, hm, hRy, hRz, hRy', hRz', hk0, hwr, hb1, hb2, x5, hv, hc0, hkk, he3]; try simp (disch := omega) only [wrap64_in]) | refine DW_block ?_ | (refine DW_if ?_ ?_ ?_; (· (simp [hnt, dStr, hm, hRy, hRz, hRy', hRz', hk0, hwr, hb1, hb2, x5, hv, hc0, hkk, he3]; done)); (try (rotate_left; (· (intro hc; (try simp [hnt, dStr, hm, hRy, hRz, hRy', hRz', hk0, hwr, hb1, hb2, x5, hv, hc0, hkk, he3] at hc); done))))) | (refine DW_ret ?_; simp [Tryz.results59, hnt, dStr, hm, hRy, hRz, hRy', hRz', hk0, hwr, hb1, hb2, x5, hv, hc0, hkk, he3]) | ((first | refine DW_exit ?_ | refine DW_skip ?_); simp [hnt, dStr, hm, hRy, hRz, hRy', hRz', hk0, hwr, hb1, hb2, x5, hv, hc0, hkk, he3]) | (intro hc; (try simp [hnt, dStr, hm, hRy, hRz, hRy', hRz', hk0, hwr, hb1, hb2, x5, hv, hc0, hkk, he3] at hc); (try (exfalso; omega))) | (refine ⟨?_, ?_⟩; · omega) | omega | apply_assumption -exfalso -symm | (exfalso; omega)))
          refine Again.mk ⟨(m + 1, kk + 1, R.set kk y), show 1 ≤ m + 1 ∧ k + (m + 1) ≤ l.length ∧ kk + 1 < k + (m + 1) ∧ k ≤ kk + 1 ∧ (R.set kk y).length = l.length ∧ (R.set kk y).take (kk + 1) = compL eqT (l.take (k + (m + 1))) ∧ (∀ j, k + (m + 1) ≤ j + 1 → (R.set kk y)[j]? = l[j]?) from ⟨by omega, by omega, by omega, by omega, by simp [x5], ?_, fun j hj => ?_⟩⟩ (Sub.lit ?_) (by simp; omega)
          · rw [show k + (m + 1) = k + m + 1 by omega, hs2, List.take_add_one, List.getElem?_set_self (by omega), List.take_set_of_le (by omega)]
            rfl
          · rw [List.getElem?_set_ne (by omega)]
            exact x7 j (by omega)
          · have hm0 : mxR ((R.map dStr).set kk [.str y]) = 0 := by
              rw [show (R.map dStr).set kk [.str y] = (R.set kk y).map dStr by simp [List.map_set, dStr]]
              exact mx_dStrs _
            simp [List.map_set, dStr, hm0]
          (repeat (first | refine DW_seq fun K hK => ?_ | (refine DW_r anWB1259 Tryz.mixed (by kernel_rfl) ?_; simp [anWB1259, hnt]; try simp (disch := omega) only [wrap64_in]) | refine DW_block ?_ | (refine DW_if ?_ ?_ ?_; (· (simp [hnt]; done)); (try (rotate_left; (· (intro hc; (try simp [hnt] at hc); done))))) | (refine DW_ret ?_; simp [Tryz.results59, hnt]) | ((first | refine DW_exit ?_ | refine DW_skip ?_); simp [hnt]) | (intro hc; (try simp [hnt] at hc); (try (exfalso; omega))) | (refine ⟨?_, ?_⟩; · omega) | omega | apply_assumption -exfalso -symm | (exfalso; omega)))
        · rw [heyz] at hs2
          simp only [if_true, List.append_nil] at hs2
          have he3 : (y == z) = true := heyz
          (repeat (first | refine DW_seq fun K hK => ?_ | (refine DW_r anWB1259 Tryz.mixed (by kernel_rfl) ?_; simp [anWB1259, hnt, dStr, hm, hRy, hRz, hRy', hRz', hk0, hwr, hb1, hb2, x5, hv, hc0, hkk, he3]; try simp (disch := omega) only [wrap64_in]) | refine DW_block ?_ | (refine DW_if ?_ ?_ ?_; (· (simp [hnt, dStr, hm, hRy, hRz, hRy', hRz', hk0, hwr, hb1, hb2, x5, hv, hc0, hkk, he3]; done)); (try (rotate_left; (· (intro hc; (try simp [hnt, dStr, hm, hRy, hRz, hRy', hRz', hk0, hwr, hb1, hb2, x5, hv, hc0, hkk, he3] at hc); done))))) | (refine DW_ret ?_; simp [Tryz.results59, hnt, dStr, hm, hRy, hRz, hRy', hRz', hk0, hwr, hb1, hb2, x5, hv, hc0, hkk, he3]) | ((first | refine DW_exit ?_ | refine DW_skip ?_); simp [hnt, dStr, hm, hRy, hRz, hRy', hRz', hk0, hwr, hb1, hb2, x5, hv, hc0, hkk, he3]) | (intro hc; (try simp [hnt, dStr, hm, hRy, hRz, hRy', hRz', hk0, hwr, hb1, hb2, x5, hv, hc0, hkk, he3] at hc); (try (exfalso; omega))) | (refine ⟨?_, ?_⟩; · omega) | omega | apply_assumption -exfalso -symm | (exfalso; omega)))
          refine Again.mk ⟨(m + 1, kk, R), show 1 ≤ m + 1 ∧ k + (m + 1) ≤ l.length ∧ kk < k + (m + 1) ∧ k ≤ kk ∧ R.length = l.length ∧ R.take kk = compL eqT (l.take (k + (m + 1))) ∧ (∀ j, k + (m + 1) ≤ j + 1 → R[j]? = l[j]?) from ⟨by omega, by omega, by omega, by omega, x5, by rw [show k + (m + 1) = k + m + 1 by omega, hs2], fun j hj => x7 j (by omega)⟩⟩ (Sub.lit (by simp)) (by simp; omega)
          (repeat (first | refine DW_seq fun K hK => ?_ | (refine DW_r anWB1259 Tryz.mixed (by kernel_rfl) ?_; simp [anWB1259, hnt]; try simp (disch := omega) only [wrap64_in]) | refine DW_block ?_ | (refine DW_if ?_ ?_ ?_; (· (simp [hnt]; done)); (try (rotate_left; (· (intro hc; (try simp [hnt] at hc); done))))) | (refine DW_ret ?_; simp [Tryz.results59, hnt]) | ((first | refine DW_exit ?_ | refine DW_skip ?_); simp [hnt]) | (intro hc; (try simp [hnt] at hc); (try (exfalso; omega))) | (refine ⟨?_, ?_⟩; · omega) | omega | apply_assumption -exfalso -symm | (exfalso; omega)))
      · have hkm : k + m = l.length := by omega
        have hcl1 : (clearD (R.map dStr) kk (l.length - kk) [.str ⟨#[]⟩]).length = l.length := by simp [clearD]; omega
        have hcl2 : (clearD (R.map dStr) kk (l.length - kk) [.str ⟨#[]⟩]).take kk = R0.map dStr := by
          have e1 : l.take (k + m) = l := by rw [hkm, List.take_length]
          rw [e1] at x6
          rw [hR0, ← x6]
          simp only [clearD]
          rw [List.append_assoc, List.take_append_of_le_length (by simp; omega), List.take_take, Nat.min_self, List.map_take]
        have hkl : kk ≤ l.length := by omega
        (repeat (first | refine DW_seq fun K hK => ?_ | (refine DW_r anWB1259 Tryz.mixed (by kernel_rfl) ?_; simp [anWB1259, hnt, hm, x5, hv, hcl1, hcl2, hkl]; try simp (disch := omega) only [wrap64_in]) | refine DW_block ?_ | (refine DW_if ?_ ?_ ?_; (· (simp [hnt, hm, x5, hv, hcl1, hcl2, hkl]; done)); (try (rotate_left; (· (intro hc; (try simp [hnt, hm, x5, hv, hcl1, hcl2, hkl] at hc); done))))) | (refine DW_ret ?_; simp [Tryz.results59, hnt, hm, x5, hv, hcl1, hcl2, hkl]) | ((first | refine DW_exit ?_ | refine DW_skip ?_); simp [hnt, hm, x5, hv, hcl1, hcl2, hkl]) | (intro hc; (try simp [hnt, hm, x5, hv, hcl1, hcl2, hkl] at hc); (try (exfalso; omega))) | (refine ⟨?_, ?_⟩; · omega) | omega | apply_assumption -exfalso -symm | (exfalso; omega)))
  · have hkk : k = l.length := by omega
    subst hkk
    rw [List.take_length] at hck
    rw [hck] at hR0
    (repeat (first | refine DW_seq fun K hK => ?_ | (refine DW_r anWB1259 Tryz.mixed (by kernel_rfl) ?_; simp [anWB1259, hnt, hR0]; try simp (disch := omega) only [wrap64_in]) | refine DW_block ?_ | (refine DW_if ?_ ?_ ?_; (· (simp [hnt, hR0]; done)); (try (rotate_left; (· (intro hc; (try simp [hnt, hR0] at hc); done))))) | (refine DW_ret ?_; simp [Tryz.results59, hnt, hR0]) | ((first | refine DW_exit ?_ | refine DW_skip ?_); simp [hnt, hR0]) | (intro hc; (try simp [hnt, hR0] at hc); (try (exfalso; omega))) | (refine ⟨?_, ?_⟩; · omega) | omega | apply_assumption -exfalso -symm | (exfalso; omega)))

def anWB1243 : Ann := ⟨[], []⟩
def anWB1243b3 : Ann := ⟨[5], []⟩
theorem cloneS_pure (l : List ByteArray) : DPure Tryz.prog 43 [dStrs l] (dStrs l) := by
  match l with
  | [] =>
    refine DPure_sl [] ?_ ?_
    · refine DPure_introF [7] (fn := Tryz.f43) Tryz.func43 rfl Tryz.call43 (by simp [Tryz.ntmps43]) (by simp [mx, mxR]) ?_
      intro hwf B hnt
      simp only [Tryz.ntmps43] at hnt
      simp only [argS, List.nil_append, dStrs, List.map_cons]
      (repeat (first | refine DW_seq fun K hK => ?_ | (refine DW_r anWB1243 Tryz.mixed (by kernel_rfl) ?_; simp [anWB1243, hnt]; try simp (disch := omega) only [wrap64_in]) | refine DW_block ?_ | (refine DW_if ?_ ?_ ?_; (· (simp [hnt]; done)); (try (rotate_left; (· (intro hc; (try simp [hnt] at hc); done))))) | (refine DW_ret ?_; simp [Tryz.results43, hnt]) | ((first | refine DW_exit ?_ | refine DW_skip ?_); simp [hnt]) | (intro hc; (try simp [hnt] at hc); (try (exfalso; omega))) | (refine ⟨?_, ?_⟩; · omega) | omega | apply_assumption -exfalso -symm | (exfalso; omega)))
    · refine DPure_introF [7, 5] (fn := Tryz.f43) Tryz.func43 rfl Tryz.call43 (by simp [Tryz.ntmps43]) (by simp [mx, mxR]) ?_
      intro hwf B hnt
      simp only [Tryz.ntmps43] at hnt
      simp only [argS, List.nil_append, dStrs, List.map_cons]
      (repeat (first | refine DW_seq fun K hK => ?_ | (refine DW_r anWB1243b3 Tryz.mixed (by kernel_rfl) ?_; simp [anWB1243b3, hnt]; try simp (disch := omega) only [wrap64_in]) | refine DW_block ?_ | (refine DW_if ?_ ?_ ?_; (· (simp [hnt]; done)); (try (rotate_left; (· (intro hc; (try simp [hnt] at hc); done))))) | (refine DW_ret ?_; simp [Tryz.results43, hnt]) | ((first | refine DW_exit ?_ | refine DW_skip ?_); simp [hnt]) | (intro hc; (try simp [hnt] at hc); (try (exfalso; omega))) | (refine ⟨?_, ?_⟩; · omega) | omega | apply_assumption -exfalso -symm | (exfalso; omega)))
  | s :: l =>
    refine DPure_introF [7, 5] (fn := Tryz.f43) Tryz.func43 rfl Tryz.call43 (by simp [Tryz.ntmps43]) (by simp [mx, mxR]) ?_
    intro hwf B hnt
    simp only [Tryz.ntmps43] at hnt
    have hsz : (s :: l).length * 16 ≤ 150000000000000 := by have := hwf.1; simp only [wfD, List.length_map] at this; exact this.1
    clear hwf
    have z2 : (s :: l).length ≤ 9223372036854775807 := by omega
    simp only [List.length_cons] at hsz z2
    simp only [argS, List.nil_append, dStrs, List.map_cons]
    (repeat (first | refine DW_seq fun K hK => ?_ | (refine DW_r anWB1243b3 Tryz.mixed (by kernel_rfl) ?_; simp [anWB1243b3, hnt, hsz, z2]; try simp (disch := omega) only [wrap64_in]) | refine DW_block ?_ | (refine DW_if ?_ ?_ ?_; (· (simp [hnt, hsz, z2]; done)); (try (rotate_left; (· (intro hc; (try simp [hnt, hsz, z2] at hc); done))))) | (refine DW_ret ?_; simp [Tryz.results43, hnt, hsz, z2]) | ((first | refine DW_exit ?_ | refine DW_skip ?_); simp [hnt, hsz, z2]) | (intro hc; (try simp [hnt, hsz, z2] at hc); (try (exfalso; omega))) | (refine ⟨?_, ?_⟩; · omega) | omega | apply_assumption -exfalso -symm | (exfalso; omega)))

def anWB1275 : Ann := ⟨[7], []⟩
theorem tell_spec (x : Edge) (l : List ByteArray) (hz : (l.length + 1) * 16 ≤ 150000000000000) :
    DSpec Tryz.prog (.func 75) [.agg (dEdge x), .bx 0 0 0] [⟨0, 0, .box [.osl 1 0]⟩, ⟨1, 0, .row 9 1 16 (l.map dStr)⟩] (.tup []) [⟨0, 0, .box [.osl 1 1]⟩, ⟨1, 1, .row 9 1 16 ((l ++ [x.lb]).map dStr)⟩] := by
  refine DSpec_intro [] [(0, 0, 0), (1, 1, 1)] (fn := Tryz.f75) Tryz.func75 rfl Tryz.call75 (by simp [Tryz.ntmps75]) (by simp) (by simp) ?_
  intro hwf B hnt
  simp only [Tryz.ntmps75] at hnt
  simp only [argS]
  have z2 : l.length + 1 ≤ 9223372036854775807 := by omega
  (repeat (first | refine DW_seq fun K hK => ?_ | (refine DW_r anWB1275 Tryz.mixed (by kernel_rfl) ?_; simp [anWB1275, hnt, dEdge, dStr, hz, z2]; try simp (disch := omega) only [wrap64_in]) | refine DW_block ?_ | (refine DW_if ?_ ?_ ?_; (· (simp [hnt, dEdge, dStr, hz, z2]; done)); (try (rotate_left; (· (intro hc; (try simp [hnt, dEdge, dStr, hz, z2] at hc); done))))) | (refine DW_ret ?_; simp [Tryz.results75, hnt, dEdge, dStr, hz, z2]) | ((first | refine DW_exit ?_ | refine DW_skip ?_); simp [hnt, dEdge, dStr, hz, z2]) | (intro hc; (try simp [hnt, dEdge, dStr, hz, z2] at hc); (try (exfalso; omega))) | (refine ⟨?_, ?_⟩; · omega) | omega | apply_assumption -exfalso -symm | (exfalso; omega)))
end Go.Proofs.YtffdjbdokgbibaaGreat
end

section
/- The data machine, second make, part Su: slices.SortFunc at texts, by the shelf's contract. -/

set_option linter.unusedSimpArgs false
set_option linter.unusedVariables false
namespace Go.Dm
open Go.Shelf Go.Sort Go.Proofs Go.RowKit

/-- texts that a machine can hold -/
abbrev TextM := { s : ByteArray // s.size ≤ maxLen }
instance : Inhabited TextM := ⟨⟨⟨#[]⟩, by decide⟩⟩
def encT (x : TextM) : Value := .string x.1

theorem sortF1_spec {P : Program} {ρ : Ren} (L : SlLaysF.n6 P ρ) {f g : FuncId} {et bs : Nat} {cf : ByteArray → ByteArray → Int} {l l' : List ByteArray} (hf : ρ.f 6 = f) (hen : Enters P f) (hbs0 : 0 < bs) (hg : Enters P g)
    (hcmp : ∀ a b : ByteArray, DPure P g [.str a, .str b] (.int .i64 (cf a b))) (hO : SWO (ltOf cf)) (huniq : ∀ q : List ByteArray, q.Perm l → q.Pairwise (fun x y => ¬ cf y x < 0) → q = l') :
    DSpec P (.func f) [.osl 0 0, .fn (.func g) [] []] [⟨0, 0, .row et 1 bs (l.map dText)⟩] (.tup []) [⟨0, 0, .row et 1 bs (l'.map dText)⟩] := by
  refine ⟨by simp, hen, fun M w loc vs S hr => ?_⟩
  refine ⟨hen, ?_⟩
  simp only [rdV] at hr
  obtain ⟨v0, r0, hvs, h0, v1, r1, rfl, h1, rfl⟩ := hr
  simp only [rd] at h0 h1
  obtain ⟨us', cs', rfl, hus, hcsr⟩ := h1
  simp only [rdV] at hus hcsr
  have hus' : us' = #[] := by cases us'; simpa using hus
  have hcs' : cs' = #[] := by cases cs'; simpa using hcsr
  subst hus'
  subst hcs'
  have hcur0 : ∀ l : List ByteArray, curOf [(⟨0, 0, .row et 1 bs (l.map dText)⟩ : Ent)] loc 0 0 = some (loc 0) := fun _ => rfl
  have hv0 := h0 _ (hcur0 l)
  have hvs' : vs = #[v0, .func (.func g) #[] #[]] := by cases vs; simpa using hvs
  subst hvs'
  subst hf
  have hhot : ∀ l : List ByteArray, hotOf [(⟨0, 0, .row et 1 bs (l.map dText)⟩ : Ent)] loc = (loc 0).blks := fun _ => by simp [hotOf]
  have htup : ∀ cur M h, rd cur M h (.tup []) (.tuple #[]) := fun _ _ _ => by simp only [rd]; exact ⟨#[], rfl, by simp [rdV]⟩
  have hk := S.ok ⟨0, 0, .row et 1 bs (l.map dText)⟩ (by simp)
  by_cases hne : l = []
  · subst hne
    have hl' : l' = [] := (huniq [] (List.Perm.refl _) List.Pairwise.nil).symm
    subst hl'
    obtain ⟨a, cap, hh⟩ : ∃ a cap, (loc 0).hdr = .slice a 0 cap := by
      obtain ⟨_, ⟨_, _, h2⟩ | ⟨b, arr, cap, _, h2, _⟩⟩ := hk
      · exact ⟨_, _, h2⟩
      · exact ⟨_, _, h2⟩
    rw [hh] at hv0
    subst hv0
    refine (AnyF.slices_SortFunc_none { L with } a cap _ w).mono ?_
    rintro e w' ⟨rfl, rfl⟩
    exact ⟨_, rfl, loc, S, Upd.refl _ _, fun b hb => .inl hb, fun e he _ => curOf_self S.nd he, htup _ _ _⟩
  · obtain ⟨b, arr, cap, p1, p2, p3, p4, p5, p6, p7⟩ : ∃ b arr cap, (loc 0).blks = [b] ∧ (loc 0).hdr = .slice (some ⟨b, 0, none⟩) (l.map dText).length cap ∧ w.heap[b]? = some (.cells arr et (0, 0)) ∧ (l.map dText).length ≤ cap ∧ cap ≤ maxLen ∧ cap * 1 = arr.size ∧ rdR (curOf [(⟨0, 0, .row et 1 bs (l.map dText)⟩ : Ent)] loc) (hotOf [(⟨0, 0, .row et 1 bs (l.map dText)⟩ : Ent)] loc ++ M) w.heap 1 (l.map dText) arr 0 := by
      obtain ⟨_, ⟨h, _⟩ | h⟩ := hk
      · exact absurd (List.map_eq_nil_iff.1 h) hne
      · exact h
    have hbs : (l.map dText).length * bs ≤ 150000000000000 := hk.1
    rw [p2] at hv0
    subst hv0
    rw [List.length_map] at p2 p4 hbs
    have hmax : ∀ s ∈ l, s.size ≤ maxLen := by
      intro s hs
      obtain ⟨i, hi, rfl⟩ := List.getElem_of_mem hs
      obtain ⟨q1, q2⟩ := rdR_at 1 _ arr 0 i [.str l[i]] p7 (by simp [dText, hi])
      obtain ⟨us, g1, g2, g3⟩ := rdC_vals _ _ _ q2
      simp only [rdV, rd] at g2
      obtain ⟨v, _, _, ⟨_, h⟩, _⟩ := g2
      exact h
    have hcell : ∀ i (hi : i < l.length), arr[i]? = some (.string l[i]) := by
      intro i hi
      obtain ⟨q1, q2⟩ := rdR_at 1 _ arr 0 i [.str l[i]] p7 (by simp [dText, hi])
      obtain ⟨us, g1, g2, g3⟩ := rdC_vals _ _ _ q2
      simp only [rdV, rd] at g2
      obtain ⟨v, r, rfl, ⟨rfl, _⟩, _⟩ := g2
      have := (g3 0 _ rfl).1
      simpa using this
    obtain ⟨ds, hds⟩ : ∃ ds : List TextM, ds.map (·.1) = l := ⟨l.pmap Subtype.mk hmax, by simp [List.map_pmap]⟩
    have hdsl : ds.length = l.length := by rw [← hds, List.length_map]
    have hdi : ∀ i (hi : i < ds.length), (ds[i]).1 = l[i]'(by omega) := by
      intro i hi
      subst hds
      simp
    have hH : Holds encT w b 0 ds.toArray := by
      intro j hj
      simp only [List.size_toArray, hdsl] at hj
      refine ⟨?_, Lib.frozen_of_heap p3 _⟩
      rw [Nat.zero_add, Lib.cell_of_heap p3, hcell j hj]
      rw [getElem!_pos _ j (by simpa [hdsl] using hj)]
      simp only [List.getElem_toArray, encT]
      rw [hdi j (by omega)]
    have hlt : ds.length < 4611686018427387904 := by
      rw [hdsl]
      have h1 : l.length * 1 ≤ l.length * bs := Nat.mul_le_mul_left _ hbs0
      omega
    have hbl : b < w.heap.size := (Array.getElem?_eq_some_iff.1 p3).1
    have hO' : SWO (ltOf fun x y : TextM => cf x.1 y.1) := ⟨fun x => hO.irrefl x.1, fun x y z => hO.trans x.1 y.1 z.1, fun x y z => hO.ntrans x.1 y.1 z.1⟩
    have hC : CmpLays1 P g #[] encT (fun x y : TextM => cf x.1 y.1) b 0 ds.toArray.size w := by
      intro m os dk _ x y
      have key := (hcmp x.1 y.1).2.2 (fun _ _ => none) [] (sortWorld encT w b 0 m dk os) (#[encT x, encT y] ++ #[]) (by simp)
      refine (key ?_).mono ?_
      · simp only [Array.append_empty, encT]
        simp only [rdV, rd]
        exact ⟨_, _, rfl, ⟨rfl, x.2⟩, _, _, rfl, ⟨rfl, y.2⟩, rfl⟩
      · rintro e w' ⟨v, rfl, hu, hv⟩
        simp only [rd] at hv
        exact ⟨by rw [hv.1], upd_grow hu⟩
    have key := Any.slices_SortFunc L encT (fun x => rfl) (fun x y : TextM => cf x.1 y.1) hO' g #[] b 0 cap ds.toArray w hg hC hH hbl (by simpa using hlt)
    simp only [List.size_toArray, hdsl] at key
    simp only [List.length_map]
    refine key.mono ?_
    rintro e w' ⟨rfl, d', n, os, hP, hS, rfl⟩
    obtain ⟨q1, q2, q3, q4, q5, q6, q7⟩ := putRow_at encT (et := et) (arr := arr) p3 n os d'
    obtain ⟨hsz', _, hperm⟩ := hP
    have hsz' : d'.size = l.length := by simpa [hdsl] using hsz'
    have e1 : d'.extract 0 l.length = d' := by rw [← hsz']; exact Array.extract_size
    have e2 : ds.toArray.extract 0 l.length = ds.toArray := by rw [← hdsl]; exact Array.extract_size
    rw [e1, e2] at hperm
    have hdata : d'.toList.map (·.1) = l' := by
      refine huniq _ ?_ ?_
      · have := hperm.map (·.1)
        simpa [hds] using this
      · rw [List.pairwise_map, List.pairwise_iff_getElem]
        intro i j hi hj hij
        have hi' : i < d'.size := by simpa using hi
        have hj' : j < d'.size := by simpa using hj
        have := hS i j (Nat.zero_le _) hij (by omega)
        rw [getElem!_pos d' j hj', getElem!_pos d' i hi'] at this
        simpa [ltOf] using this
    have hlen' : l'.length = l.length := by rw [← hdata]; simp [hsz']
    refine ⟨_, rfl, loc, ⟨by simp, by rw [hhot, p1]; simp, fun q hq => S.ap q (by rw [hhot]; rwa [hhot] at hq), fun q hq => ?_, ?_⟩, ?_, fun q hq => .inl (by rw [hhot]; rwa [hhot] at hq), ?_, htup _ _ _⟩
    · refine Nat.lt_of_lt_of_le (S.lt q ?_) q3
      rw [hhot] at hq ⊢; exact hq
    · intro e he
      simp only [List.mem_singleton] at he
      subst he
      refine ⟨by simpa [hlen'] using hbs, .inr ⟨b, _, cap, p1, by simpa [hlen'] using p2, q1, by simpa [hlen'] using p4, p5, by simpa [putCells] using p6, ?_⟩⟩
      refine rdR_mk _ _ _ _ fun i cs0 hi => ?_
      have hil : i < l.length := by
        have := (List.getElem?_eq_some_iff.1 hi).1
        simpa [hlen'] using this
      have hid : i < d'.size := by omega
      rw [← hdata] at hi
      simp only [List.map_map, List.getElem?_map] at hi
      rw [List.getElem?_eq_getElem (by simpa using hid)] at hi
      simp only [Option.map_some, Function.comp_apply, Option.some.injEq, Array.getElem_toList] at hi
      subst hi
      refine ⟨rfl, ?_⟩
      have h0 := rdC_of (cur := curOf [(⟨0, 0, .row et 1 bs (l'.map dText)⟩ : Ent)] loc) (M := hotOf [(⟨0, 0, .row et 1 bs (l'.map dText)⟩ : Ent)] loc ++ M) (H := (sortWorld encT w b 0 n d' os).heap) [.str (d'[i]).1] [.string (d'[i]).1] [] [] (by simp only [rdV, rd]; exact ⟨_, _, rfl, ⟨rfl, (d'[i]).2⟩, rfl⟩) (by simp [Value.oneCell'])
      refine rdC_same _ _ _ _ _ (fun p hp => ?_) h0
      have hp0 : p = 0 := by simp [dText] at hp; omega
      subst hp0
      have hia : i < arr.size := by omega
      simp only [putCells, Array.getElem?_mapIdx]
      rw [show 0 + i * 1 + 0 = i by omega, Array.getElem?_eq_getElem hia]
      simp [hid, encT]
    · rw [hhot, p1]
      exact ⟨q4, q5, q6, q7, q3, fun q hq hn => q2 q hq (fun h => hn (by simp [h]))⟩
    · intro e he _
      simp only [List.mem_singleton] at he
      subst he
      rfl
/-- slices.SortFunc at no element -/
theorem sortNone_pure {P : Program} {ρ : Ren} (L : SlLaysF0.n6 P ρ) {f g : FuncId} {k bs : Nat} (hf : ρ.f 6 = f) (hen : Enters P f) : DPure P f [.sl k bs [], .fn (.func g) [] []] (.tup []) := by
  refine ⟨hen, by simp [mx, mxL], fun cur M w vs _ hr => ?_⟩
  simp only [rdV, rd] at hr
  obtain ⟨v0, r0, hvs, ⟨a, cap, rfl, _⟩, v1, r1, rfl, _, rfl⟩ := hr
  have hvs' : vs = #[.slice a 0 cap, v1] := by cases vs; simpa using hvs
  subst hvs'
  subst hf
  refine (AnyF.slices_SortFunc_none L a cap v1 w).mono ?_
  rintro e w' ⟨rfl, rfl⟩
  refine ⟨_, rfl, Upd.refl _ _, ?_⟩
  simp only [rd]
  exact ⟨#[], rfl, by simp [rdV]⟩
end Go.Dm
end

section
/- lists sorted and each once: at texts and at edges -/




set_option linter.unusedSimpArgs false
set_option linter.unusedVariables false
namespace Go.Proofs.YtffdjbdokgbibaaGreat
open Go Go.Dm
attribute [local irreducible] DW callP callS
set_option maxRecDepth 100000

abbrev eqC (x y : Edge) : Bool := eCmp x y == 0
theorem eqC_ne {x y : Edge} (h : eqC x y = false) : ¬ x = y := fun e => by
  have := (ordE.eq0 x y).2 e
  simp [eqC, this] at h
theorem eqC_eq {x y : Edge} (h : eqC x y = true) : x = y := (ordE.eq0 x y).1 (by simpa [eqC] using h)
def anWE263 : Ann := ⟨[], []⟩
set_option maxHeartbeats 4000000 in
theorem compactE_spec (l : List Edge) :
    DSpec Tryz.prog (.func 63) [.osl 0 0] [⟨0, 0, .row 40 3 48 (l.map dEdge)⟩] (dEds (compL eqC l)) [] := by
  refine DSpec_introW [0] [] (fn := Tryz.f63) Tryz.func63 rfl Tryz.call63 (by simp [Tryz.ntmps63]) (by simp) (by simp) ?_
  intro hwf hwo B hnt
  simp only [argS]
  have hl : l.length ≤ 9223372036854775807 := by
    simp only [wfOwn, maxLen, List.length_map] at hwo
    omega
  clear hwo
  by_cases hl2 : l.length < 2
  · have hcl : compL eqC l = l := by
      match l, hl2 with
      | [], _ => rfl
      | [x], _ => rfl
    (repeat (first | refine DW_seq fun K hK => ?_ | (refine DW_r anWE263 Tryz.mixed (by kernel_rfl) ?_; simp [anWE263, hnt, hl2, hcl]; try simp (disch := omega) only [wrap64_in]) | refine DW_block ?_ | (refine DW_if ?_ ?_ ?_; (· (simp [hnt, hl2, hcl]; done)); (try (rotate_left; (· (intro hc; (try simp [hnt, hl2, hcl] at hc); done))))) | (refine DW_ret ?_; simp [Tryz.results63, hnt, hl2, hcl]) | ((first | refine DW_exit ?_ | refine DW_skip ?_); simp [hnt, hl2, hcl]) | (intro hc; (try simp [hnt, hl2, hcl] at hc); (try (exfalso; omega))) | (refine ⟨?_, ?_⟩; · omega) | omega | apply_assumption -exfalso -symm | (exfalso; omega)))
  have hl2' : ¬ (l.length : Int) < 2 := by omega
  obtain ⟨R0, hR0⟩ : ∃ R0, R0 = compL eqC l := ⟨_, rfl⟩
  rw [← hR0]
  (repeat (first | refine DW_seq fun K hK => ?_ | (refine DW_r anWE263 Tryz.mixed (by kernel_rfl) ?_; simp [anWE263, hnt, hl2, hl2']; try simp (disch := omega) only [wrap64_in]) | refine DW_block ?_ | (refine DW_if ?_ ?_ ?_; (· (simp [hnt, hl2, hl2']; done)); (try (rotate_left; (· (intro hc; (try simp [hnt, hl2, hl2'] at hc); done))))) | (refine DW_ret ?_; simp [Tryz.results63, hnt, hl2, hl2']) | ((first | refine DW_exit ?_ | refine DW_skip ?_); simp [hnt, hl2, hl2']) | (intro hc; (try simp [hnt, hl2, hl2'] at hc); (try (exfalso; omega))) | (refine ⟨?_, ?_⟩; · omega) | omega | apply_assumption -exfalso -symm | (exfalso; omega)))
  refine DW_loop (X := {k : Nat // 1 ≤ k ∧ k ≤ l.length ∧ compL eqC (l.take k) = l.take k}) (fun k => ⟨[(0, .osl 0 0), (3, .int .i64 k.1)], [⟨0, 0, .row 40 3 48 (l.map dEdge)⟩]⟩) (fun k => l.length - k.1) ⟨1, by
    obtain ⟨x, t, rfl⟩ : ∃ x t, l = x :: t := by
      cases l with
      | nil => simp at hl2
      | cons x t => exact ⟨x, t, rfl⟩
    simp [compL, compGo]⟩ (Sub.lit (by simp)) ?_
  rintro ⟨k, hk1, hk, hck⟩
  by_cases hlt : k < l.length
  · obtain ⟨q, hq, hq', hqm⟩ := at_lt' hlt
    obtain ⟨p, hp, hp', hpm⟩ := at_lt' (show k - 1 < l.length by omega)
    have hwr : IntKind.i64.wrap ((k : Int) - 1) = (k : Int) - 1 := wrap64_in (by omega) (by omega)
    have hk0 : ((k : Int) - 1).toNat = k - 1 := by omega
    have hs := compL_snoc (e := eqC) (by omega) hp hq
    have hb1 : (0 : Int) ≤ (k : Int) - 1 := by omega
    have hb2 : (k : Int) - 1 < l.length := by omega
    cases hepq : eqC q p
    · rw [hepq] at hs
      simp only [Bool.false_eq_true, if_false] at hs
      have he2 : (q.fr == p.fr && (q.lb == p.lb && q.to == p.to)) = false := edge_ne (eqC_ne hepq)
      (repeat (first | refine DW_seq fun K hK => ?_ | (refine DW_r anWE263 Tryz.mixed (by kernel_rfl) ?_; simp [anWE263, hnt, dEdge, hlt, hq', hp', hp, hq, hk0, hwr, hb1, hb2, he2]; try simp (disch := omega) only [wrap64_in]) | refine DW_block ?_ | (refine DW_if ?_ ?_ ?_; (· (simp [hnt, dEdge, hlt, hq', hp', hp, hq, hk0, hwr, hb1, hb2, he2]; done)); (try (rotate_left; (· (intro hc; (try simp [hnt, dEdge, hlt, hq', hp', hp, hq, hk0, hwr, hb1, hb2, he2] at hc); done))))) | (refine DW_ret ?_; simp [Tryz.results63, hnt, dEdge, hlt, hq', hp', hp, hq, hk0, hwr, hb1, hb2, he2]) | ((first | refine DW_exit ?_ | refine DW_skip ?_); simp [hnt, dEdge, hlt, hq', hp', hp, hq, hk0, hwr, hb1, hb2, he2]) | (intro hc; (try simp [hnt, dEdge, hlt, hq', hp', hp, hq, hk0, hwr, hb1, hb2, he2] at hc); (try (exfalso; omega))) | (refine ⟨?_, ?_⟩; · omega) | omega | apply_assumption -exfalso -symm | (exfalso; omega)))
      refine Again.mk ⟨k + 1, by omega, by omega, by rw [hs, hck, List.take_add_one, hq]; rfl⟩ (Sub.lit (by simp)) (by simp; omega)
      (repeat (first | refine DW_seq fun K hK => ?_ | (refine DW_r anWE263 Tryz.mixed (by kernel_rfl) ?_; simp [anWE263, hnt]; try simp (disch := omega) only [wrap64_in]) | refine DW_block ?_ | (refine DW_if ?_ ?_ ?_; (· (simp [hnt]; done)); (try (rotate_left; (· (intro hc; (try simp [hnt] at hc); done))))) | (refine DW_ret ?_; simp [Tryz.results63, hnt]) | ((first | refine DW_exit ?_ | refine DW_skip ?_); simp [hnt]) | (intro hc; (try simp [hnt] at hc); (try (exfalso; omega))) | (refine ⟨?_, ?_⟩; · omega) | omega | apply_assumption -exfalso -symm | (exfalso; omega)))
    · rw [hepq] at hs
      simp only [if_true, List.append_nil] at hs
      have he2 : (q.fr == p.fr && (q.lb == p.lb && q.to == p.to)) = true := by rw [eqC_eq hepq]; simp
      (repeat (first | refine DW_seq fun K hK => ?_ | (refine DW_r anWE263 Tryz.mixed (by kernel_rfl) ?_; simp [anWE263, hnt, dEdge, hlt, hq', hp', hp, hq, hk0, hwr, hb1, hb2, he2]; try simp (disch := omega) only [wrap64_in]) | refine DW_block ?_ | (refine DW_if ?_ ?_ ?_; (· (simp [hnt, dEdge, hlt, hq', hp', hp, hq, hk0, hwr, hb1, hb2, he2]; done)); (try (rotate_left; (· (intro hc; (try simp [hnt, dEdge, hlt, hq', hp', hp, hq, hk0, hwr, hb1, hb2, he2] at hc); done))))) | (refine DW_ret ?_; simp [Tryz.results63, hnt, dEdge, hlt, hq', hp', hp, hq, hk0, hwr, hb1, hb2, he2]) | ((first | refine DW_exit ?_ | refine DW_skip ?_); simp [hnt, dEdge, hlt, hq', hp', hp, hq, hk0, hwr, hb1, hb2, he2]) | (intro hc; (try simp [hnt, dEdge, hlt, hq', hp', hp, hq, hk0, hwr, hb1, hb2, he2] at hc); (try (exfalso; omega))) | (refine ⟨?_, ?_⟩; · omega) | omega | apply_assumption -exfalso -symm | (exfalso; omega)))
      clear hwr hk0 hb1 hb2
      refine DW_loop (X := {x : Nat × Nat × List Edge // 1 ≤ x.1 ∧ k + x.1 ≤ l.length ∧ x.2.1 < k + x.1 ∧ k ≤ x.2.1 ∧ x.2.2.length = l.length ∧ x.2.2.take x.2.1 = compL eqC (l.take (k + x.1)) ∧ ∀ j, k + x.1 ≤ j + 1 → x.2.2[j]? = l[j]?}) (fun x => ⟨[(0, .osl 0 0), (3, .int .i64 x.1.2.1), (4, .vw 0 0 3 48 k (l.length - k)), (5, .int .i64 x.1.1)], [⟨0, 0, .row 40 3 48 (x.1.2.2.map dEdge)⟩]⟩) (fun x => l.length - x.1.1)
        ⟨(1, k, l), show 1 ≤ 1 ∧ k + 1 ≤ l.length ∧ k < k + 1 ∧ k ≤ k ∧ l.length = l.length ∧ l.take k = compL eqC (l.take (k + 1)) ∧ (∀ j, k + 1 ≤ j + 1 → l[j]? = l[j]?) from ⟨by omega, by omega, by omega, by omega, rfl, by rw [hs, hck], fun _ _ => rfl⟩⟩ (Sub.lit (by simp)) ?_
      rintro ⟨⟨m, kk, R⟩, x1, x2, x3, x4, x5, x6, x7⟩
      simp only at x1 x2 x3 x4 x5 x6 x7 ⊢
      have hv : k + (l.length - k) ≤ l.length := by omega
      by_cases hm : m < l.length - k
      · obtain ⟨y, hy, hy', hym⟩ := at_lt' (show k + m < l.length by omega)
        obtain ⟨z, hz, hz', hzm⟩ := at_lt' (show k + m - 1 < l.length by omega)
        obtain ⟨c0, hc0, _, _⟩ := at_lt' (show kk < R.length by omega)
        have hRy : R[k + m]? = some y := by rw [x7 _ (by omega)]; exact hy
        have hRz : R[k + (m - 1)]? = some z := by rw [x7 _ (by omega), show k + (m - 1) = k + m - 1 by omega]; exact hz
        have hRy' : R[k + m]'(by omega) = y := (List.getElem?_eq_some_iff.1 hRy).2
        have hRz' : R[k + (m - 1)]'(by omega) = z := (List.getElem?_eq_some_iff.1 hRz).2
        have hwr : IntKind.i64.wrap ((m : Int) - 1) = (m : Int) - 1 := wrap64_in (by omega) (by omega)
        have hk0 : ((m : Int) - 1).toNat = m - 1 := by omega
        have hb1 : (0 : Int) ≤ (m : Int) - 1 := by omega
        have hb2 : (m : Int) - 1 < ((l.length - k : Nat) : Int) := by omega
        have hs2 := compL_snoc (e := eqC) (by omega) hz hy
        rw [← x6] at hs2
        have hkk : kk < l.length := by omega
        cases heyz : eqC y z
        · rw [heyz] at hs2
          simp only [Bool.false_eq_true, if_false] at hs2
          have he3 : (y.fr == z.fr && (y.lb == z.lb && y.to == z.to)) = false := edge_ne (eqC_ne heyz)
          (repeat (first | refine DW_seq fun K hK => ?_ | (refine DW_r anWE263 Tryz.mixed (by kernel_rfl) ?_; simp [anWE263, hnt, dEdge, hm, hRy, hRz, hRy', hRz', hk0, hwr, hb1, hb2, x5, hv, hc0, hkk, he3]; try simp (disch := omega) only [wrap64_in]) | refine DW_block ?_ | (refine DW_if ?_ ?_ ?_; (· (simp [hnt, dEdge, hm, hRy, hRz, hRy', hRz', hk0, hwr, hb1, hb2, x5, hv, hc0, hkk, he3]; done)); (try (rotate_left; (· (intro hc; (try simp [hnt, dEdge, hm, hRy, hRz, hRy', hRz', hk0, hwr, hb1, hb2, x5, hv, hc0, hkk, he3] at hc); done))))) | (refine DW_ret ?_; simp [Tryz.results63, hnt, dEdge, hm, hRy, hRz, hRy', hRz', hk0, hwr, hb1, hb2, x5, hv, hc0, hkk, he3]) | ((first | refine DW_exit ?_ | refine DW_skip ?_); simp [hnt, dEdge, hm, hRy, hRz, hRy', hRz', hk0, hwr, hb1, hb2, x5, hv, hc0, hkk, he3]) | (intro hc; (try simp [hnt, dEdge, hm, hRy, hRz, hRy', hRz', hk0, hwr, hb1, hb2, x5, hv, hc0, hkk, he3] at hc); (try (exfalso; omega))) | (refine ⟨?_, ?_⟩; · omega) | omega | apply_assumption -exfalso -symm | (exfalso; omega)))
          refine Again.mk ⟨(m + 1, kk + 1, R.set kk y), show 1 ≤ m + 1 ∧ k + (m + 1) ≤ l.length ∧ kk + 1 < k + (m + 1) ∧ k ≤ kk + 1 ∧ (R.set kk y).length = l.length ∧ (R.set kk y).take (kk + 1) = compL eqC (l.take (k + (m + 1))) ∧ (∀ j, k + (m + 1) ≤ j + 1 → (R.set kk y)[j]? = l[j]?) from ⟨by omega, by omega, by omega, by omega, by simp [x5], ?_, fun j hj => ?_⟩⟩ (Sub.lit ?_) (by simp; omega)
          · rw [show k + (m + 1) = k + m + 1 by omega, hs2, List.take_add_one, List.getElem?_set_self (by omega), List.take_set_of_le (by omega)]
            rfl
          · rw [List.getElem?_set_ne (by omega)]
            exact x7 j (by omega)
          · have hm0 : mxR ((R.map dEdge).set kk [.str y.fr, .str y.lb, .str y.to]) = 0 := by
              rw [show (R.map dEdge).set kk [.str y.fr, .str y.lb, .str y.to] = (R.set kk y).map dEdge by simp [List.map_set, dEdge]]
              exact mx_dEds _
            simp [List.map_set, dEdge, hm0]
          (repeat (first | refine DW_seq fun K hK => ?_ | (refine DW_r anWE263 Tryz.mixed (by kernel_rfl) ?_; simp [anWE263, hnt]; try simp (disch := omega) only [wrap64_in]) | refine DW_block ?_ | (refine DW_if ?_ ?_ ?_; (· (simp [hnt]; done)); (try (rotate_left; (· (intro hc; (try simp [hnt] at hc); done))))) | (refine DW_ret ?_; simp [Tryz.results63, hnt]) | ((first | refine DW_exit ?_ | refine DW_skip ?_); simp [hnt]) | (intro hc; (try simp [hnt] at hc); (try (exfalso; omega))) | (refine ⟨?_, ?_⟩; · omega) | omega | apply_assumption -exfalso -symm | (exfalso; omega)))
        · rw [heyz] at hs2
          simp only [if_true, List.append_nil] at hs2
          have he3 : (y.fr == z.fr && (y.lb == z.lb && y.to == z.to)) = true := by rw [eqC_eq heyz]; simp
          (repeat (first | refine DW_seq fun K hK => ?_ | (refine DW_r anWE263 Tryz.mixed (by kernel_rfl) ?_; simp [anWE263, hnt, dEdge, hm, hRy, hRz, hRy', hRz', hk0, hwr, hb1, hb2, x5, hv, hc0, hkk, he3]; try simp (disch := omega) only [wrap64_in]) | refine DW_block ?_ | (refine DW_if ?_ ?_ ?_; (· (simp [hnt, dEdge, hm, hRy, hRz, hRy', hRz', hk0, hwr, hb1, hb2, x5, hv, hc0, hkk, he3]; done)); (try (rotate_left; (· (intro hc; (try simp [hnt, dEdge, hm, hRy, hRz, hRy', hRz', hk0, hwr, hb1, hb2, x5, hv, hc0, hkk, he3] at hc); done))))) | (refine DW_ret ?_; simp [Tryz.results63, hnt, dEdge, hm, hRy, hRz, hRy', hRz', hk0, hwr, hb1, hb2, x5, hv, hc0, hkk, he3]) | ((first | refine DW_exit ?_ | refine DW_skip ?_); simp [hnt, dEdge, hm, hRy, hRz, hRy', hRz', hk0, hwr, hb1, hb2, x5, hv, hc0, hkk, he3]) | (intro hc; (try simp [hnt, dEdge, hm, hRy, hRz, hRy', hRz', hk0, hwr, hb1, hb2, x5, hv, hc0, hkk, he3] at hc); (try (exfalso; omega))) | (refine ⟨?_, ?_⟩; · omega) | omega | apply_assumption -exfalso -symm | (exfalso; omega)))
          refine Again.mk ⟨(m + 1, kk, R), show 1 ≤ m + 1 ∧ k + (m + 1) ≤ l.length ∧ kk < k + (m + 1) ∧ k ≤ kk ∧ R.length = l.length ∧ R.take kk = compL eqC (l.take (k + (m + 1))) ∧ (∀ j, k + (m + 1) ≤ j + 1 → R[j]? = l[j]?) from ⟨by omega, by omega, by omega, by omega, x5, by rw [show k + (m + 1) = k + m + 1 by omega, hs2], fun j hj => x7 j (by omega)⟩⟩ (Sub.lit (by simp)) (by simp; omega)
          (repeat (first | refine DW_seq fun K hK => ?_ | (refine DW_r anWE263 Tryz.mixed (by kernel_rfl) ?_; simp [anWE263, hnt]; try simp (disch := omega) only [wrap64_in]) | refine DW_block ?_ | (refine DW_if ?_ ?_ ?_; (· (simp [hnt]; done)); (try (rotate_left; (· (intro hc; (try simp [hnt] at hc); done))))) | (refine DW_ret ?_; simp [Tryz.results63, hnt]) | ((first | refine DW_exit ?_ | refine DW_skip ?_); simp [hnt]) | (intro hc; (try simp [hnt] at hc); (try (exfalso; omega))) | (refine ⟨?_, ?_⟩; · omega) | omega | apply_assumption -exfalso -symm | (exfalso; omega)))
      · have hkm : k + m = l.length := by omega
        have hcl1 : (clearD (R.map dEdge) kk (l.length - kk) [.str ⟨#[]⟩, .str ⟨#[]⟩, .str ⟨#[]⟩]).length = l.length := by simp [clearD]; omega
        have hcl2 : (clearD (R.map dEdge) kk (l.length - kk) [.str ⟨#[]⟩, .str ⟨#[]⟩, .str ⟨#[]⟩]).take kk = R0.map dEdge := by
          have e1 : l.take (k + m) = l := by rw [hkm, List.take_length]
          rw [e1] at x6
          rw [hR0, ← x6]
          simp only [clearD]
          rw [List.append_assoc, List.take_append_of_le_length (by simp; omega), List.take_take, Nat.min_self, List.map_take]
        have hkl : kk ≤ l.length := by omega
        (repeat (first | refine DW_seq fun K hK => ?_ | (refine DW_r anWE263 Tryz.mixed (by kernel_rfl) ?_; simp [anWE263, hnt, hm, x5, hv, hcl1, hcl2, hkl]; try simp (disch := omega) only [wrap64_in]) | refine DW_block ?_ | (refine DW_if ?_ ?_ ?_; (· (simp [hnt, hm, x5, hv, hcl1, hcl2, hkl]; done)); (try (rotate_left; (· (intro hc; (try simp [hnt, hm, x5, hv, hcl1, hcl2, hkl] at hc); done))))) | (refine DW_ret ?_; simp [Tryz.results63, hnt, hm, x5, hv, hcl1, hcl2, hkl]) | ((first | refine DW_exit ?_ | refine DW_skip ?_); simp [hnt, hm, x5, hv, hcl1, hcl2, hkl]) | (intro hc; (try simp [hnt, hm, x5, hv, hcl1, hcl2, hkl] at hc); (try (exfalso; omega))) | (refine ⟨?_, ?_⟩; · omega) | omega | apply_assumption -exfalso -symm | (exfalso; omega)))
  · have hkk : k = l.length := by omega
    subst hkk
    rw [List.take_length] at hck
    rw [hck] at hR0
    (repeat (first | refine DW_seq fun K hK => ?_ | (refine DW_r anWE263 Tryz.mixed (by kernel_rfl) ?_; simp [anWE263, hnt, hR0]; try simp (disch := omega) only [wrap64_in]) | refine DW_block ?_ | (refine DW_if ?_ ?_ ?_; (· (simp [hnt, hR0]; done)); (try (rotate_left; (· (intro hc; (try simp [hnt, hR0] at hc); done))))) | (refine DW_ret ?_; simp [Tryz.results63, hnt, hR0]) | ((first | refine DW_exit ?_ | refine DW_skip ?_); simp [hnt, hR0]) | (intro hc; (try simp [hnt, hR0] at hc); (try (exfalso; omega))) | (refine ⟨?_, ?_⟩; · omega) | omega | apply_assumption -exfalso -symm | (exfalso; omega)))

def anWE261 : Ann := ⟨[], []⟩
def anWE261b3 : Ann := ⟨[5], []⟩
theorem cloneE_pure (l : List Edge) : DPure Tryz.prog 61 [dEds l] (dEds l) := by
  match l with
  | [] =>
    refine DPure_sl [] ?_ ?_
    · refine DPure_introF [7] (fn := Tryz.f61) Tryz.func61 rfl Tryz.call61 (by simp [Tryz.ntmps61]) (by simp [mx, mxR]) ?_
      intro hwf B hnt
      simp only [Tryz.ntmps61] at hnt
      simp only [argS, List.nil_append, dEds, List.map_cons]
      (repeat (first | refine DW_seq fun K hK => ?_ | (refine DW_r anWE261 Tryz.mixed (by kernel_rfl) ?_; simp [anWE261, hnt]; try simp (disch := omega) only [wrap64_in]) | refine DW_block ?_ | (refine DW_if ?_ ?_ ?_; (· (simp [hnt]; done)); (try (rotate_left; (· (intro hc; (try simp [hnt] at hc); done))))) | (refine DW_ret ?_; simp [Tryz.results61, hnt]) | ((first | refine DW_exit ?_ | refine DW_skip ?_); simp [hnt]) | (intro hc; (try simp [hnt] at hc); (try (exfalso; omega))) | (refine ⟨?_, ?_⟩; · omega) | omega | apply_assumption -exfalso -symm | (exfalso; omega)))
    · refine DPure_introF [7, 5] (fn := Tryz.f61) Tryz.func61 rfl Tryz.call61 (by simp [Tryz.ntmps61]) (by simp [mx, mxR]) ?_
      intro hwf B hnt
      simp only [Tryz.ntmps61] at hnt
      simp only [argS, List.nil_append, dEds, List.map_cons]
      (repeat (first | refine DW_seq fun K hK => ?_ | (refine DW_r anWE261b3 Tryz.mixed (by kernel_rfl) ?_; simp [anWE261b3, hnt]; try simp (disch := omega) only [wrap64_in]) | refine DW_block ?_ | (refine DW_if ?_ ?_ ?_; (· (simp [hnt]; done)); (try (rotate_left; (· (intro hc; (try simp [hnt] at hc); done))))) | (refine DW_ret ?_; simp [Tryz.results61, hnt]) | ((first | refine DW_exit ?_ | refine DW_skip ?_); simp [hnt]) | (intro hc; (try simp [hnt] at hc); (try (exfalso; omega))) | (refine ⟨?_, ?_⟩; · omega) | omega | apply_assumption -exfalso -symm | (exfalso; omega)))
  | s :: l =>
    refine DPure_introF [7, 5] (fn := Tryz.f61) Tryz.func61 rfl Tryz.call61 (by simp [Tryz.ntmps61]) (by simp [mx, mxR]) ?_
    intro hwf B hnt
    simp only [Tryz.ntmps61] at hnt
    have hsz : (s :: l).length * 48 ≤ 150000000000000 := by have := hwf.1; simp only [wfD, List.length_map] at this; exact this.1
    clear hwf
    have z2 : (s :: l).length ≤ 9223372036854775807 := by omega
    simp only [List.length_cons] at hsz z2
    simp only [argS, List.nil_append, dEds, List.map_cons]
    (repeat (first | refine DW_seq fun K hK => ?_ | (refine DW_r anWE261b3 Tryz.mixed (by kernel_rfl) ?_; simp [anWE261b3, hnt, hsz, z2]; try simp (disch := omega) only [wrap64_in]) | refine DW_block ?_ | (refine DW_if ?_ ?_ ?_; (· (simp [hnt, hsz, z2]; done)); (try (rotate_left; (· (intro hc; (try simp [hnt, hsz, z2] at hc); done))))) | (refine DW_ret ?_; simp [Tryz.results61, hnt, hsz, z2]) | ((first | refine DW_exit ?_ | refine DW_skip ?_); simp [hnt, hsz, z2]) | (intro hc; (try simp [hnt, hsz, z2] at hc); (try (exfalso; omega))) | (refine ⟨?_, ?_⟩; · omega) | omega | apply_assumption -exfalso -symm | (exfalso; omega)))

end Go.Proofs.YtffdjbdokgbibaaGreat
end

section
/- sorted lists, each once: the program's -/


set_option linter.unusedSimpArgs false
set_option linter.unusedVariables false
namespace Go.Proofs.YtffdjbdokgbibaaGreat
open Go Go.Dm
attribute [local irreducible] DW callP callS
set_option maxRecDepth 100000

theorem sortFS_spec (l : List ByteArray) : DSpec Tryz.prog (.func 58) [.osl 0 0, .fn (.func 45) [] []] [⟨0, 0, .row 9 1 16 (l.map dStr)⟩] (.tup []) [⟨0, 0, .row 9 1 16 ((ssort l).map dStr)⟩] := by
  refine sortF1_spec (cf := sCmp) Tryz.sortFStr rfl Tryz.call58 (by decide) Tryz.call45 compare_pure ?_ fun q hp hs => ?_
  · refine ⟨fun x => ?_, fun x y z h1 h2 => ?_, fun x y z h1 h2 => ?_⟩
    · simp only [Go.Proofs.ltOf, decide_eq_false_iff_not]; rw [ordS.refl]; omega
    · simp only [Go.Proofs.ltOf, decide_eq_true_eq] at *; exact ordS.trans _ _ _ h1 h2
    · simp only [Go.Proofs.ltOf, decide_eq_false_iff_not] at *; exact ordS.ntrans _ _ _ h1 h2
  · have hs2 : (ssort l).Pairwise (fun x y => ¬ sCmp y x < 0) := (ssort_sorted l).imp fun {x y} h => by rw [sCmp_neg, h]; simp
    have hp2 : (ssort l).Perm l := by
      unfold ssort
      have := (List.mergeSort_perm (l.map fun s => s.data.toList) fun x y => decide (x ≤ y)).map fun x => (⟨x.toArray⟩ : ByteArray)
      rwa [List.map_map, show ((fun x => (⟨x.toArray⟩ : ByteArray)) ∘ fun s : ByteArray => s.data.toList) = id from rfl, List.map_id] at this
    exact sorted_eq ordS (hp.trans hp2.symm) hs hs2
theorem sortFE_spec (l : List Edge) : DSpec Tryz.prog (.func 62) [.osl 0 0, .fn (.func 47) [] []] [⟨0, 0, .row 40 3 48 (l.map dEdge)⟩] (.tup []) [⟨0, 0, .row 40 3 48 ((sortC eCmp l).map dEdge)⟩] := by
  obtain ⟨un, hun⟩ : ∃ un : List DVal → Edge, ∀ e, un (dEdge e) = e := ⟨fun d => match d with | [.str a, .str b, .str c] => ⟨a, b, c⟩ | _ => ⟨⟨#[]⟩, ⟨#[]⟩, ⟨#[]⟩⟩, fun e => rfl⟩
  have hmem : ∀ x ∈ l.map dEdge, ∃ p ∈ l, x = dEdge p := fun x hx => by
    obtain ⟨p, hp, rfl⟩ := List.mem_map.1 hx
    exact ⟨p, hp, rfl⟩
  refine sort_spec (cf := fun x y => eCmp (un x) (un y)) Tryz.sortFEdge (by rfl) Tryz.call62 (by kernel_rfl) (by kernel_rfl) (by decide) rfl ?_ Tryz.call47 ?_ ?_ ?_ ?_ ?_
  · intro x hx
    obtain ⟨p, _, rfl⟩ := hmem x hx
    simp
  · intro x hx y hy
    obtain ⟨p, _, rfl⟩ := hmem x hx
    obtain ⟨q, _, rfl⟩ := hmem y hy
    simp only [hun]
    exact order_edge_pure p q
  · intro x _
    rw [ordE.refl]; omega
  · intro x _ y _ z _; exact ordE.trans _ _ _
  · intro x _ y _ z _; exact ordE.ntrans _ _ _
  · intro L hp hs
    exact uniq_rows ordE hun hp hs

theorem sortFS_nil : DPure Tryz.prog 58 [dStrs [], .fn (.func 45) [] []] (.tup []) := sortNone_pure (ρ := Tryz.sortFStr_ren) { Tryz.sortFStr with } rfl Tryz.call58
theorem sortFE_nil : DPure Tryz.prog 62 [dEds [], .fn (.func 47) [] []] (.tup []) := sortNone_pure Tryz.sortFEdge rfl Tryz.call62
def anWE359 : Ann := ⟨[], []⟩
theorem compactS_nil : DPure Tryz.prog 59 [dStrs []] (dStrs []) := by
  refine DPure_introF [] (fn := Tryz.f59) Tryz.func59 rfl Tryz.call59 (by simp [Tryz.ntmps59]) (by simp [mx, mxR]) ?_
  intro hwf B hnt
  simp only [Tryz.ntmps59] at hnt
  simp only [argS]
  (repeat (first | refine DW_seq fun K hK => ?_ | (refine DW_r anWE359 Tryz.mixed (by kernel_rfl) ?_; simp [anWE359, hnt]; try simp (disch := omega) only [wrap64_in]) | refine DW_block ?_ | (refine DW_if ?_ ?_ ?_; (· (simp [hnt]; done)); (try (rotate_left; (· (intro hc; (try simp [hnt] at hc); done))))) | (refine DW_ret ?_; simp [Tryz.results59, hnt]) | ((first | refine DW_exit ?_ | refine DW_skip ?_); simp [hnt]) | (intro hc; (try simp [hnt] at hc); (try (exfalso; omega))) | (refine ⟨?_, ?_⟩; · omega) | omega | apply_assumption -exfalso -symm | (exfalso; omega)))
def anWE363 : Ann := ⟨[], []⟩
theorem compactE_nil : DPure Tryz.prog 63 [dEds []] (dEds []) := by
  refine DPure_introF [] (fn := Tryz.f63) Tryz.func63 rfl Tryz.call63 (by simp [Tryz.ntmps63]) (by simp [mx, mxR]) ?_
  intro hwf B hnt
  simp only [Tryz.ntmps63] at hnt
  simp only [argS]
  (repeat (first | refine DW_seq fun K hK => ?_ | (refine DW_r anWE363 Tryz.mixed (by kernel_rfl) ?_; simp [anWE363, hnt]; try simp (disch := omega) only [wrap64_in]) | refine DW_block ?_ | (refine DW_if ?_ ?_ ?_; (· (simp [hnt]; done)); (try (rotate_left; (· (intro hc; (try simp [hnt] at hc); done))))) | (refine DW_ret ?_; simp [Tryz.results63, hnt]) | ((first | refine DW_exit ?_ | refine DW_skip ?_); simp [hnt]) | (intro hc; (try simp [hnt] at hc); (try (exfalso; omega))) | (refine ⟨?_, ?_⟩; · omega) | omega | apply_assumption -exfalso -symm | (exfalso; omega)))
def anWE343 : Ann := ⟨[5], []⟩
theorem cloneS_own (s : ByteArray) (l : List ByteArray) : DSpec Tryz.prog (.func 43) [dStrs (s :: l)] [] (.osl 0 1) [⟨0, 1, .row 9 1 16 ((s :: l).map dStr)⟩] := by
  refine DSpec_intro [] [(5, 0, 1)] (fn := Tryz.f43) Tryz.func43 rfl Tryz.call43 (by simp [Tryz.ntmps43]) (by simp) (by simp) ?_
  intro hwf B hnt
  simp only [Tryz.ntmps43] at hnt
  have hsz : (s :: l).length * 16 ≤ 150000000000000 := by have := hwf.1; simp only [wfD, List.length_map] at this; exact this.1
  clear hwf
  have z2 : (s :: l).length ≤ 9223372036854775807 := by omega
  simp only [List.length_cons] at hsz z2
  simp only [argS, List.nil_append, dStrs, List.map_cons]
  (repeat (first | refine DW_seq fun K hK => ?_ | (refine DW_r anWE343 Tryz.mixed (by kernel_rfl) ?_; simp [anWE343, hnt, hsz, z2]; try simp (disch := omega) only [wrap64_in]) | refine DW_block ?_ | (refine DW_if ?_ ?_ ?_; (· (simp [hnt, hsz, z2]; done)); (try (rotate_left; (· (intro hc; (try simp [hnt, hsz, z2] at hc); done))))) | (refine DW_ret ?_; simp [Tryz.results43, hnt, hsz, z2]) | ((first | refine DW_exit ?_ | refine DW_skip ?_); simp [hnt, hsz, z2]) | (intro hc; (try simp [hnt, hsz, z2] at hc); (try (exfalso; omega))) | (refine ⟨?_, ?_⟩; · omega) | omega | apply_assumption -exfalso -symm | (exfalso; omega)))
def anWE361 : Ann := ⟨[5], []⟩
theorem cloneE_own (s : Edge) (l : List Edge) : DSpec Tryz.prog (.func 61) [dEds (s :: l)] [] (.osl 0 1) [⟨0, 1, .row 40 3 48 ((s :: l).map dEdge)⟩] := by
  refine DSpec_intro [] [(5, 0, 1)] (fn := Tryz.f61) Tryz.func61 rfl Tryz.call61 (by simp [Tryz.ntmps61]) (by simp) (by simp) ?_
  intro hwf B hnt
  simp only [Tryz.ntmps61] at hnt
  have hsz : (s :: l).length * 48 ≤ 150000000000000 := by have := hwf.1; simp only [wfD, List.length_map] at this; exact this.1
  clear hwf
  have z2 : (s :: l).length ≤ 9223372036854775807 := by omega
  simp only [List.length_cons] at hsz z2
  simp only [argS, List.nil_append, dEds, List.map_cons]
  (repeat (first | refine DW_seq fun K hK => ?_ | (refine DW_r anWE361 Tryz.mixed (by kernel_rfl) ?_; simp [anWE361, hnt, hsz, z2]; try simp (disch := omega) only [wrap64_in]) | refine DW_block ?_ | (refine DW_if ?_ ?_ ?_; (· (simp [hnt, hsz, z2]; done)); (try (rotate_left; (· (intro hc; (try simp [hnt, hsz, z2] at hc); done))))) | (refine DW_ret ?_; simp [Tryz.results61, hnt, hsz, z2]) | ((first | refine DW_exit ?_ | refine DW_skip ?_); simp [hnt, hsz, z2]) | (intro hc; (try simp [hnt, hsz, z2] at hc); (try (exfalso; omega))) | (refine ⟨?_, ?_⟩; · omega) | omega | apply_assumption -exfalso -symm | (exfalso; omega)))

def anWE344 : Ann := ⟨[], []⟩
theorem sortedS_nil : DPure Tryz.prog 44 [dStrs [], .fn (.func 45) [] []] (dStrs (uniqS [])) := by
  have e : uniqS [] = [] := uniq_small (by simp)
  rw [e]
  refine DPure_introF [] (fn := Tryz.f44) Tryz.func44 rfl Tryz.call44 (by simp [Tryz.ntmps44]) (by simp [mx, mxR]) ?_
  intro hwf B hnt
  simp only [Tryz.ntmps44] at hnt
  simp only [argS]
  (repeat (first | refine DW_seq fun K hK => ?_ | (refine DW_r anWE344 Tryz.mixed (by kernel_rfl) ?_; simp [anWE344, hnt]; try simp (disch := omega) only [wrap64_in]) | refine DW_block ?_ | (refine DW_if ?_ ?_ ?_; (· (simp [hnt]; done)); (try (rotate_left; (· (intro hc; (try simp [hnt] at hc); done))))) | (refine DW_ret ?_; simp [Tryz.results44, hnt]) | ((first | refine DW_exit ?_ | refine DW_skip ?_); simp [hnt]) | (intro hc; (try simp [hnt] at hc); (try (exfalso; omega))) | ((first | refine callP_mk (cloneS_pure []) ?_ | refine callP_mk (sortFS_nil) ?_ | refine callP_mk (compactS_nil) ?_ | (refine callP_wk (cloneS_pure []) ?_ ?_; (· (simp; done))) | (refine callP_wk (sortFS_nil) ?_ ?_; (· (simp; done))) | (refine callP_wk (compactS_nil) ?_ ?_; (· (simp; done)))); try simp [hnt]) | (refine ⟨?_, ?_⟩; · omega) | omega | apply_assumption -exfalso -symm | (exfalso; omega)))
def anWE344b6 : Ann := ⟨[7, 10, 12], []⟩
set_option maxHeartbeats 1000000 in
theorem sortedS_pure (l : List ByteArray) : DPure Tryz.prog 44 [dStrs l, .fn (.func 45) [] []] (dStrs (uniqS l)) := by
  cases l with
  | nil => exact sortedS_nil
  | cons s l =>
    refine DPure_introF [] (fn := Tryz.f44) Tryz.func44 rfl Tryz.call44 (by simp [Tryz.ntmps44]) (by simp [mx]) ?_
    intro hwf B hnt
    simp only [Tryz.ntmps44] at hnt
    simp only [argS]
    have h1 := cloneS_own s l
    have h2 := sortFS_spec (s :: l)
    have h3 := compact175_spec (ssort (s :: l))
    have h4 := cloneS_pure (uniqS (s :: l))
    rw [show compL eqT (ssort (s :: l)) = uniqS (s :: l) from rfl] at h3
    (repeat (first | refine DW_seq fun K hK => ?_ | (refine DW_r anWE344b6 Tryz.mixed (by kernel_rfl) ?_; simp [anWE344b6, hnt]; try simp (disch := omega) only [wrap64_in]) | refine DW_block ?_ | (refine DW_if ?_ ?_ ?_; (· (simp [hnt]; done)); (try (rotate_left; (· (intro hc; (try simp [hnt] at hc); done))))) | (refine DW_ret ?_; simp [Tryz.results44, hnt]) | ((first | refine DW_exit ?_ | refine DW_skip ?_); simp [hnt]) | (intro hc; (try simp [hnt] at hc); (try (exfalso; omega))) | ((first | refine callP_mk (h4) ?_ | (refine callP_wk (h4) ?_ ?_; (· (simp; done)))); try simp [hnt]) | (refine callS_mk [] [(7,0)] (h1) ?_ ?_; (· (simp [hnt]; done)); (intro _; try simp [hnt])) | (refine callS_mk [(7,0)] [] (h2) ?_ ?_; (· (simp [hnt]; done)); (intro _; try simp [hnt])) | (refine callS_mk [(7,0)] [] (h3) ?_ ?_; (· (simp [hnt]; done)); (intro _; try simp [hnt])) | (refine ⟨?_, ?_⟩; · omega) | omega | apply_assumption -exfalso -symm | (exfalso; omega)))
def anWE346 : Ann := ⟨[], []⟩
theorem sortedE_nil : DPure Tryz.prog 46 [dEds [], .fn (.func 47) [] []] (dEds (uniqC eCmp [])) := by
  have e : uniqC eCmp [] = [] := uniqC_small ordE (by simp)
  rw [e]
  refine DPure_introF [] (fn := Tryz.f46) Tryz.func46 rfl Tryz.call46 (by simp [Tryz.ntmps46]) (by simp [mx, mxR]) ?_
  intro hwf B hnt
  simp only [Tryz.ntmps46] at hnt
  simp only [argS]
  (repeat (first | refine DW_seq fun K hK => ?_ | (refine DW_r anWE346 Tryz.mixed (by kernel_rfl) ?_; simp [anWE346, hnt]; try simp (disch := omega) only [wrap64_in]) | refine DW_block ?_ | (refine DW_if ?_ ?_ ?_; (· (simp [hnt]; done)); (try (rotate_left; (· (intro hc; (try simp [hnt] at hc); done))))) | (refine DW_ret ?_; simp [Tryz.results46, hnt]) | ((first | refine DW_exit ?_ | refine DW_skip ?_); simp [hnt]) | (intro hc; (try simp [hnt] at hc); (try (exfalso; omega))) | ((first | refine callP_mk (cloneE_pure []) ?_ | refine callP_mk (sortFE_nil) ?_ | refine callP_mk (compactE_nil) ?_ | (refine callP_wk (cloneE_pure []) ?_ ?_; (· (simp; done))) | (refine callP_wk (sortFE_nil) ?_ ?_; (· (simp; done))) | (refine callP_wk (compactE_nil) ?_ ?_; (· (simp; done)))); try simp [hnt]) | (refine ⟨?_, ?_⟩; · omega) | omega | apply_assumption -exfalso -symm | (exfalso; omega)))
def anWE346b8 : Ann := ⟨[7, 10, 12], []⟩
set_option maxHeartbeats 1000000 in
theorem sortedE_pure (l : List Edge) : DPure Tryz.prog 46 [dEds l, .fn (.func 47) [] []] (dEds (uniqC eCmp l)) := by
  cases l with
  | nil => exact sortedE_nil
  | cons s l =>
    refine DPure_introF [] (fn := Tryz.f46) Tryz.func46 rfl Tryz.call46 (by simp [Tryz.ntmps46]) (by simp [mx]) ?_
    intro hwf B hnt
    simp only [Tryz.ntmps46] at hnt
    simp only [argS]
    have h1 := cloneE_own s l
    have h2 := sortFE_spec (s :: l)
    have h3 := compactE_spec (sortC eCmp (s :: l))
    have h4 := cloneE_pure (uniqC eCmp (s :: l))
    rw [show compL eqC (sortC eCmp (s :: l)) = uniqC eCmp (s :: l) from rfl] at h3
    (repeat (first | refine DW_seq fun K hK => ?_ | (refine DW_r anWE346b8 Tryz.mixed (by kernel_rfl) ?_; simp [anWE346b8, hnt]; try simp (disch := omega) only [wrap64_in]) | refine DW_block ?_ | (refine DW_if ?_ ?_ ?_; (· (simp [hnt]; done)); (try (rotate_left; (· (intro hc; (try simp [hnt] at hc); done))))) | (refine DW_ret ?_; simp [Tryz.results46, hnt]) | ((first | refine DW_exit ?_ | refine DW_skip ?_); simp [hnt]) | (intro hc; (try simp [hnt] at hc); (try (exfalso; omega))) | ((first | refine callP_mk (h4) ?_ | (refine callP_wk (h4) ?_ ?_; (· (simp; done)))); try simp [hnt]) | (refine callS_mk [] [(7,0)] (h1) ?_ ?_; (· (simp [hnt]; done)); (intro _; try simp [hnt])) | (refine callS_mk [(7,0)] [] (h2) ?_ ?_; (· (simp [hnt]; done)); (intro _; try simp [hnt])) | (refine callS_mk [(7,0)] [] (h3) ?_ ?_; (· (simp [hnt]; done)); (intro _; try simp [hnt])) | (refine ⟨?_, ?_⟩; · omega) | omega | apply_assumption -exfalso -symm | (exfalso; omega)))
end Go.Proofs.YtffdjbdokgbibaaGreat
end

section
/- the program's labels and lone nodes of a graph -/

set_option linter.unusedSimpArgs false
set_option linter.unusedVariables false
namespace Go.Proofs.YtffdjbdokgbibaaGreat
open Go Go.Dm
attribute [local irreducible] DW callP callS
set_option maxRecDepth 100000

def anWB1364 : Ann := ⟨[17, 20, 22], [⟨5, [6], [], []⟩]⟩
set_option maxHeartbeats 1000000 in
theorem labels137_pure (g : Edges) : DPure Tryz.prog 64 [.agg (dGr g)] (dStrs (uniqS (labelsL g.edges))) := by
  refine DPure_introF [] (fn := Tryz.f64) Tryz.func64 rfl Tryz.call64 (by simp [Tryz.ntmps64]) (by simp [mx]) ?_
  intro hwf B hnt
  simp only [Tryz.ntmps64] at hnt
  obtain ⟨ns, es⟩ := g
  have hs2 : es.length * 48 ≤ 150000000000000 := by have := hwf.1; simp only [wfD, dGr, wfL, List.length_map] at this; exact this.2.1.1
  clear hwf
  simp only [argS]
  obtain ⟨R, hR⟩ : ∃ R, R = uniqS (labelsL es) := ⟨_, rfl⟩
  rw [← hR]
  (repeat (first | refine DW_seq fun K hK => ?_ | (refine DW_r anWB1364 Tryz.mixed (by kernel_rfl) ?_; simp [anWB1364, hnt, dGr]; try simp (disch := omega) only [wrap64_in]) | refine DW_block ?_ | (refine DW_if ?_ ?_ ?_; (· (simp [hnt, dGr]; done)); (try (rotate_left; (· (intro hc; (try simp [hnt, dGr] at hc); done))))) | (refine DW_ret ?_; simp [Tryz.results64, hnt, dGr]) | ((first | refine DW_exit ?_ | refine DW_skip ?_); simp [hnt, dGr]) | (intro hc; (try simp [hnt, dGr] at hc); (try (exfalso; omega))) | (refine ⟨?_, ?_⟩; · omega) | omega | apply_assumption -exfalso -symm | (exfalso; omega)))
  refine DW_adoptC 3 0 50 9 1 16 (by simp) (fun n => ?_)
  refine DW_loop (X := {k : Nat // k ≤ es.length}) (fun k => ⟨[(3, .bx 3 1 0), (4, .fn (.func 75) [] [.bx 3 1 0]), (9, dEds es), (10, .int .i64 es.length), (11, .int .i64 k.1)], [⟨3, 1, .box [.osl 50 1]⟩, ⟨50, 1, .row 9 1 16 ((labelsL (es.take k.1)).map dStr)⟩]⟩) (fun k => es.length - k.1) ⟨0, by omega⟩ (Sub.lit (by simp [labelsL])) ?_
  rintro ⟨k, hk⟩
  by_cases hlt : k < es.length
  · obtain ⟨x, hx, hx', hxm⟩ := at_lt' hlt
    have htk : labelsL (es.take (k + 1)) = labelsL (es.take k) ++ [x.lb] := by unfold labelsL; rw [List.take_succ_eq_append_getElem hlt, hx', List.map_append]; rfl
    have hl1 : (labelsL (es.take k)).length = k := by simp [labelsL]; omega
    obtain ⟨T, hT⟩ : ∃ T, T = labelsL (es.take k) := ⟨_, rfl⟩
    rw [← hT] at htk hl1 ⊢
    have e1 := tell_spec x T (by omega)
    simp only [dEdge] at e1
    (repeat (first | refine DW_seq fun K hK => ?_ | (refine DW_r anWB1364 Tryz.mixed (by kernel_rfl) ?_; simp [anWB1364, hnt, dEdge, hlt, hx, hx']; try simp (disch := omega) only [wrap64_in]) | refine DW_block ?_ | (refine DW_if ?_ ?_ ?_; (· (simp [hnt, dEdge, hlt, hx, hx']; done)); (try (rotate_left; (· (intro hc; (try simp [hnt, dEdge, hlt, hx, hx'] at hc); done))))) | (refine DW_ret ?_; simp [Tryz.results64, hnt, dEdge, hlt, hx, hx']) | ((first | refine DW_exit ?_ | refine DW_skip ?_); simp [hnt, dEdge, hlt, hx, hx']) | (intro hc; (try simp [hnt, dEdge, hlt, hx, hx'] at hc); (try (exfalso; omega))) | (refine callS_mk [(3,0),(50,1)] [] (e1) ?_ ?_; (· (simp [hnt, dEdge, hlt, hx, hx']; done)); (intro _; try simp [hnt, dEdge, hlt, hx, hx'])) | (refine ⟨?_, ?_⟩; · omega) | omega | apply_assumption -exfalso -symm | (exfalso; omega)))
    refine Again.mk ⟨k + 1, by omega⟩ (Sub.lit (by simp [htk, dStr])) (by simp; omega)
    (repeat (first | refine DW_seq fun K hK => ?_ | (refine DW_r anWB1364 Tryz.mixed (by kernel_rfl) ?_; simp [anWB1364, hnt]; try simp (disch := omega) only [wrap64_in]) | refine DW_block ?_ | (refine DW_if ?_ ?_ ?_; (· (simp [hnt]; done)); (try (rotate_left; (· (intro hc; (try simp [hnt] at hc); done))))) | (refine DW_ret ?_; simp [Tryz.results64, hnt]) | ((first | refine DW_exit ?_ | refine DW_skip ?_); simp [hnt]) | (intro hc; (try simp [hnt] at hc); (try (exfalso; omega))) | (refine callS_mk [(3,0),(50,1)] [] (e1) ?_ ?_; (· (simp [hnt]; done)); (intro _; try simp [hnt])) | (refine ⟨?_, ?_⟩; · omega) | omega | apply_assumption -exfalso -symm | (exfalso; omega)))
  · have hkk : k = es.length := by omega
    subst hkk
    rw [List.take_length]
    have hR2 : R = compL eqT (ssort (labelsL es)) := hR
    clear hR
    obtain ⟨T, hT⟩ : ∃ T, T = labelsL es := ⟨_, rfl⟩
    rw [← hT] at hR2 ⊢
    have e1 := sortTexts_spec T
    have e2 := compact175_spec (ssort T)
    rw [← hR2] at e2
    have e3 := cloneS_pure R
    (repeat (first | refine DW_seq fun K hK => ?_ | (refine DW_r anWB1364 Tryz.mixed (by kernel_rfl) ?_; simp [anWB1364, hnt]; try simp (disch := omega) only [wrap64_in]) | refine DW_block ?_ | (refine DW_if ?_ ?_ ?_; (· (simp [hnt]; done)); (try (rotate_left; (· (intro hc; (try simp [hnt] at hc); done))))) | (refine DW_ret ?_; simp [Tryz.results64, hnt]) | ((first | refine DW_exit ?_ | refine DW_skip ?_); simp [hnt]) | (intro hc; (try simp [hnt] at hc); (try (exfalso; omega))) | ((first | refine callP_mk (e3) ?_ | (refine callP_wk (e3) ?_ ?_; (· (simp; done)))); try simp [hnt]) | (refine callS_mk [(50,0)] [] (e1) ?_ ?_; (· (simp [hnt]; done)); (intro _; try simp [hnt])) | (refine callS_mk [(50,0)] [] (e2) ?_ ?_; (· (simp [hnt]; done)); (intro _; try simp [hnt])) | (refine ⟨?_, ?_⟩; · omega) | omega | apply_assumption -exfalso -symm | (exfalso; omega)))

def intsV (l : List Int) : List DVal := l.map fun n => .int .i64 n
theorem intsV_set (l : List Int) (j : Nat) (n : Int) : (intsV l).set j (.int .i64 n) = intsV (l.set j n) := by simp [intsV, List.map_set]
theorem intsV_app (l : List Int) (n : Int) : intsV l ++ [.int .i64 n] = intsV (l ++ [n]) := by simp [intsV]
@[simp] theorem mxL_ints (l : List Int) : mxL (intsV l) = 0 := by
  unfold intsV
  induction l with
  | nil => rfl
  | cons a l ih => simp [mxL, mx, ih]
/-- how often texts have come: as far as it counts -/
structure Cnt (K : List ByteArray) (V : List Int) (es : List ByteArray) : Prop where
  len : K.length = V.length
  mem : ∀ s, s ∈ K ↔ s ∈ es
  val : ∀ v ∈ V, 1 ≤ v ∧ v ≤ es.length
theorem strsD_app (l : List ByteArray) (s : ByteArray) : strsD l ++ [.str s] = strsD (l ++ [s]) := by simp [strsD]
theorem Cnt.step {K : List ByteArray} {V : List Int} {es : List ByteArray} (h : Cnt K V es) (s : ByteArray) :
    (∃ j d, lookI (strsD K) (.str s) = some j ∧ (intsV V)[j]? = some (.int .i64 d) ∧ 1 ≤ d ∧ d ≤ es.length ∧ Cnt K (V.set j (d + 1)) (es ++ [s])) ∨
    (lookI (strsD K) (.str s) = none ∧ Cnt (K ++ [s]) (V ++ [1]) (es ++ [s])) := by
  by_cases hs : s ∈ K
  · obtain ⟨j, h1, h2⟩ := lookS_some hs
    have h3 : j < V.length := by rw [← h.len]; exact h2
    have hv := h.val V[j] (List.getElem_mem h3)
    refine .inl ⟨j, V[j], h1, by simp [intsV, h3], hv.1, hv.2, by simp [h.len], fun x => ?_, fun v hv' => ?_⟩
    · rw [h.mem x, List.mem_append]
      constructor
      · exact .inl
      · rintro (hx | hx)
        · exact hx
        · simp only [List.mem_singleton] at hx
          subst hx
          exact (h.mem x).1 hs
    · rcases List.mem_or_eq_of_mem_set hv' with h4 | rfl
      · have := h.val v h4; simp; omega
      · simp; omega
  · refine .inr ⟨lookS_none hs, by simp [h.len], fun x => by simp [h.mem x], fun v hv => ?_⟩
    rcases List.mem_append.1 hv with h4 | h4
    · have := h.val v h4; simp; omega
    · simp only [List.mem_singleton] at h4
      subst h4
      simp
      omega

def anWB1377 : Ann := ⟨[], [⟨4, [5], [], []⟩]⟩
set_option maxHeartbeats 4000000 in
theorem lone176_pure (g : Edges) : DPure Tryz.prog 77 [.agg (dGr g)] (dStrs (loneL g)) := by
  refine DPure_introF [6] (fn := Tryz.f77) Tryz.func77 rfl Tryz.call77 (by simp [Tryz.ntmps77]) (by simp [mx]) ?_
  intro hwf B hnt
  simp only [Tryz.ntmps77] at hnt
  obtain ⟨ns, es⟩ := g
  have hs1 : ns.length * 16 ≤ 150000000000000 := by have := hwf.1; simp only [wfD, dGr, wfL, List.length_map] at this; exact this.1.1
  have hs2 : es.length * 48 ≤ 150000000000000 := by have := hwf.1; simp only [wfD, dGr, wfL, List.length_map] at this; exact this.2.1.1
  clear hwf
  simp only [argS]
  obtain ⟨R, hR⟩ : ∃ R, R = loneL ⟨ns, es⟩ := ⟨_, rfl⟩
  rw [← hR]
  (repeat (first | refine DW_seq fun K hK => ?_ | (refine DW_r anWB1377 Tryz.mixed (by kernel_rfl) ?_; simp [anWB1377, hnt, dGr]; try simp (disch := omega) only [wrap64_in]) | refine DW_block ?_ | (refine DW_if ?_ ?_ ?_; (· (simp [hnt, dGr]; done)); (try (rotate_left; (· (intro hc; (try simp [hnt, dGr] at hc); done))))) | (refine DW_ret ?_; simp [Tryz.results77, hnt, dGr]) | ((first | refine DW_exit ?_ | refine DW_skip ?_); simp [hnt, dGr]) | (intro hc; (try simp [hnt, dGr] at hc); (try (exfalso; omega))) | (refine ⟨?_, ?_⟩; · omega) | omega | apply_assumption -exfalso -symm | (exfalso; omega)))
  refine DW_loop (X := {x : Nat × List ByteArray × List Int // x.1 ≤ es.length ∧ Cnt x.2.1 x.2.2 (endsL (es.take x.1))}) (fun x => ⟨[(1, .ref [dStrs ns, dEds es]), (3, .omp 9 1), (11, dEds es), (12, .int .i64 es.length), (13, .int .i64 x.1.1)], [⟨9, 1, .map (strsD x.1.2.1) (intsV x.1.2.2)⟩]⟩) (fun x => es.length - x.1.1)
    ⟨(0, [], []), by simp, by simp, by simp [endsL], by simp⟩ (Sub.lit (by simp [strsD, intsV])) ?_
  rintro ⟨⟨k, Ks, V⟩, hk, hC⟩
  simp only at hk hC ⊢
  by_cases hlt : k < es.length
  · obtain ⟨x, hx, hx', hxm⟩ := at_lt' hlt
    have htk := endsL_take hx
    have hel : (endsL (es.take k)).length = 2 * k := by rw [endsL_len, List.length_take]; omega
    have hks := keyStrs Ks
    have happ : ∀ C : List ByteArray, endsL (es.take k) ++ [x.fr] ++ [x.to] = endsL (es.take (k + 1)) := fun _ => by rw [htk]; simp
    rcases hC.step x.fr with ⟨j, d, l1, v1, d1, d2, hC1⟩ | ⟨l1, hC1⟩
    · rw [hel] at d2
      have w1 : IntKind.i64.wrap (d + 1) = d + 1 := wrap64_in (by omega) (by omega)
      have st1 := intsV_set V j (d + 1)
      rcases hC1.step x.to with ⟨j2, e, l2, v2, e1, e2, hC2⟩ | ⟨l2, hC2⟩
      · simp only [List.length_append, List.length_cons, List.length_nil, hel] at e2
        have w2 : IntKind.i64.wrap (e + 1) = e + 1 := wrap64_in (by omega) (by omega)
        have st2 := intsV_set (V.set j (d + 1)) j2 (e + 1)
        rw [happ Ks] at hC2
        (repeat (first | refine DW_seq fun K hK => ?_ | (refine DW_r anWB1377 Tryz.mixed (by kernel_rfl) ?_; simp [anWB1377, hnt, dEdge, hlt, hx, hx', hks, l1, v1, w1, st1, l2, v2, w2, st2]; try simp (disch := omega) only [wrap64_in]) | refine DW_block ?_ | (refine DW_if ?_ ?_ ?_; (· (simp [hnt, dEdge, hlt, hx, hx', hks, l1, v1, w1, st1, l2, v2, w2, st2]; done)); (try (rotate_left; (· (intro hc; (try simp [hnt, dEdge, hlt, hx, hx', hks, l1, v1, w1, st1, l2, v2, w2, st2] at hc); done))))) | (refine DW_ret ?_; simp [Tryz.results77, hnt, dEdge, hlt, hx, hx', hks, l1, v1, w1, st1, l2, v2, w2, st2]) | ((first | refine DW_exit ?_ | refine DW_skip ?_); simp [hnt, dEdge, hlt, hx, hx', hks, l1, v1, w1, st1, l2, v2, w2, st2]) | (intro hc; (try simp [hnt, dEdge, hlt, hx, hx', hks, l1, v1, w1, st1, l2, v2, w2, st2] at hc); (try (exfalso; omega))) | (refine ⟨?_, ?_⟩; · omega) | omega | apply_assumption -exfalso -symm | (exfalso; omega)))
        refine Again.mk ⟨(k + 1, Ks, (V.set j (d + 1)).set j2 (e + 1)), show k + 1 ≤ es.length ∧ Cnt Ks ((V.set j (d + 1)).set j2 (e + 1)) (endsL (es.take (k + 1))) from ⟨by omega, hC2⟩⟩ (Sub.lit (by simp)) (by simp; omega)
        (repeat (first | refine DW_seq fun K hK => ?_ | (refine DW_r anWB1377 Tryz.mixed (by kernel_rfl) ?_; simp [anWB1377, hnt]; try simp (disch := omega) only [wrap64_in]) | refine DW_block ?_ | (refine DW_if ?_ ?_ ?_; (· (simp [hnt]; done)); (try (rotate_left; (· (intro hc; (try simp [hnt] at hc); done))))) | (refine DW_ret ?_; simp [Tryz.results77, hnt]) | ((first | refine DW_exit ?_ | refine DW_skip ?_); simp [hnt]) | (intro hc; (try simp [hnt] at hc); (try (exfalso; omega))) | (refine ⟨?_, ?_⟩; · omega) | omega | apply_assumption -exfalso -symm | (exfalso; omega)))
      · rw [happ Ks] at hC2
        have st2 := intsV_app (V.set j (d + 1)) 1
        have sk2 := strsD_app Ks x.to
        (repeat (first | refine DW_seq fun K hK => ?_ | (refine DW_r anWB1377 Tryz.mixed (by kernel_rfl) ?_; simp [anWB1377, hnt, dEdge, hlt, hx, hx', hks, l1, v1, w1, st1, l2, st2, sk2]; try simp (disch := omega) only [wrap64_in]) | refine DW_block ?_ | (refine DW_if ?_ ?_ ?_; (· (simp [hnt, dEdge, hlt, hx, hx', hks, l1, v1, w1, st1, l2, st2, sk2]; done)); (try (rotate_left; (· (intro hc; (try simp [hnt, dEdge, hlt, hx, hx', hks, l1, v1, w1, st1, l2, st2, sk2] at hc); done))))) | (refine DW_ret ?_; simp [Tryz.results77, hnt, dEdge, hlt, hx, hx', hks, l1, v1, w1, st1, l2, st2, sk2]) | ((first | refine DW_exit ?_ | refine DW_skip ?_); simp [hnt, dEdge, hlt, hx, hx', hks, l1, v1, w1, st1, l2, st2, sk2]) | (intro hc; (try simp [hnt, dEdge, hlt, hx, hx', hks, l1, v1, w1, st1, l2, st2, sk2] at hc); (try (exfalso; omega))) | (refine ⟨?_, ?_⟩; · omega) | omega | apply_assumption -exfalso -symm | (exfalso; omega)))
        refine Again.mk ⟨(k + 1, Ks ++ [x.to], V.set j (d + 1) ++ [1]), show k + 1 ≤ es.length ∧ Cnt (Ks ++ [x.to]) (V.set j (d + 1) ++ [1]) (endsL (es.take (k + 1))) from ⟨by omega, hC2⟩⟩ (Sub.lit (by simp)) (by simp; omega)
        (repeat (first | refine DW_seq fun K hK => ?_ | (refine DW_r anWB1377 Tryz.mixed (by kernel_rfl) ?_; simp [anWB1377, hnt]; try simp (disch := omega) only [wrap64_in]) | refine DW_block ?_ | (refine DW_if ?_ ?_ ?_; (· (simp [hnt]; done)); (try (rotate_left; (· (intro hc; (try simp [hnt] at hc); done))))) | (refine DW_ret ?_; simp [Tryz.results77, hnt]) | ((first | refine DW_exit ?_ | refine DW_skip ?_); simp [hnt]) | (intro hc; (try simp [hnt] at hc); (try (exfalso; omega))) | (refine ⟨?_, ?_⟩; · omega) | omega | apply_assumption -exfalso -symm | (exfalso; omega)))
    · have st1 := intsV_app V 1
      have sk1 := strsD_app Ks x.fr
      have hks1 := keyStrs (Ks ++ [x.fr])
      rcases hC1.step x.to with ⟨j2, e, l2, v2, e1, e2, hC2⟩ | ⟨l2, hC2⟩
      · simp only [List.length_append, List.length_cons, List.length_nil, hel] at e2
        have w2 : IntKind.i64.wrap (e + 1) = e + 1 := wrap64_in (by omega) (by omega)
        have st2 := intsV_set (V ++ [1]) j2 (e + 1)
        rw [happ Ks] at hC2
        (repeat (first | refine DW_seq fun K hK => ?_ | (refine DW_r anWB1377 Tryz.mixed (by kernel_rfl) ?_; simp [anWB1377, hnt, dEdge, hlt, hx, hx', hks, l1, st1, sk1, hks1, l2, v2, w2, st2]; try simp (disch := omega) only [wrap64_in]) | refine DW_block ?_ | (refine DW_if ?_ ?_ ?_; (· (simp [hnt, dEdge, hlt, hx, hx', hks, l1, st1, sk1, hks1, l2, v2, w2, st2]; done)); (try (rotate_left; (· (intro hc; (try simp [hnt, dEdge, hlt, hx, hx', hks, l1, st1, sk1, hks1, l2, v2, w2, st2] at hc); done))))) | (refine DW_ret ?_; simp [Tryz.results77, hnt, dEdge, hlt, hx, hx', hks, l1, st1, sk1, hks1, l2, v2, w2, st2]) | ((first | refine DW_exit ?_ | refine DW_skip ?_); simp [hnt, dEdge, hlt, hx, hx', hks, l1, st1, sk1, hks1, l2, v2, w2, st2]) | (intro hc; (try simp [hnt, dEdge, hlt, hx, hx', hks, l1, st1, sk1, hks1, l2, v2, w2, st2] at hc); (try (exfalso; omega))) | (refine ⟨?_, ?_⟩; · omega) | omega | apply_assumption -exfalso -symm | (exfalso; omega)))
        refine Again.mk ⟨(k + 1, Ks ++ [x.fr], (V ++ [1]).set j2 (e + 1)), show k + 1 ≤ es.length ∧ Cnt (Ks ++ [x.fr]) ((V ++ [1]).set j2 (e + 1)) (endsL (es.take (k + 1))) from ⟨by omega, hC2⟩⟩ (Sub.lit (by simp)) (by simp; omega)
        (repeat (first | refine DW_seq fun K hK => ?_ | (refine DW_r anWB1377 Tryz.mixed (by kernel_rfl) ?_; simp [anWB1377, hnt]; try simp (disch := omega) only [wrap64_in]) | refine DW_block ?_ | (refine DW_if ?_ ?_ ?_; (· (simp [hnt]; done)); (try (rotate_left; (· (intro hc; (try simp [hnt] at hc); done))))) | (refine DW_ret ?_; simp [Tryz.results77, hnt]) | ((first | refine DW_exit ?_ | refine DW_skip ?_); simp [hnt]) | (intro hc; (try simp [hnt] at hc); (try (exfalso; omega))) | (refine ⟨?_, ?_⟩; · omega) | omega | apply_assumption -exfalso -symm | (exfalso; omega)))
      · rw [happ Ks] at hC2
        have st2 := intsV_app (V ++ [1]) 1
        have sk2 := strsD_app (Ks ++ [x.fr]) x.to
        (repeat (first | refine DW_seq fun K hK => ?_ | (refine DW_r anWB1377 Tryz.mixed (by kernel_rfl) ?_; simp [anWB1377, hnt, dEdge, hlt, hx, hx', hks, l1, st1, sk1, hks1, l2, st2, sk2]; try simp (disch := omega) only [wrap64_in]) | refine DW_block ?_ | (refine DW_if ?_ ?_ ?_; (· (simp [hnt, dEdge, hlt, hx, hx', hks, l1, st1, sk1, hks1, l2, st2, sk2]; done)); (try (rotate_left; (· (intro hc; (try simp [hnt, dEdge, hlt, hx, hx', hks, l1, st1, sk1, hks1, l2, st2, sk2] at hc); done))))) | (refine DW_ret ?_; simp [Tryz.results77, hnt, dEdge, hlt, hx, hx', hks, l1, st1, sk1, hks1, l2, st2, sk2]) | ((first | refine DW_exit ?_ | refine DW_skip ?_); simp [hnt, dEdge, hlt, hx, hx', hks, l1, st1, sk1, hks1, l2, st2, sk2]) | (intro hc; (try simp [hnt, dEdge, hlt, hx, hx', hks, l1, st1, sk1, hks1, l2, st2, sk2] at hc); (try (exfalso; omega))) | (refine ⟨?_, ?_⟩; · omega) | omega | apply_assumption -exfalso -symm | (exfalso; omega)))
        refine Again.mk ⟨(k + 1, Ks ++ [x.fr] ++ [x.to], V ++ [1] ++ [1]), show k + 1 ≤ es.length ∧ Cnt (Ks ++ [x.fr] ++ [x.to]) (V ++ [1] ++ [1]) (endsL (es.take (k + 1))) from ⟨by omega, hC2⟩⟩ (Sub.lit (by simp)) (by simp; omega)
        (repeat (first | refine DW_seq fun K hK => ?_ | (refine DW_r anWB1377 Tryz.mixed (by kernel_rfl) ?_; simp [anWB1377, hnt]; try simp (disch := omega) only [wrap64_in]) | refine DW_block ?_ | (refine DW_if ?_ ?_ ?_; (· (simp [hnt]; done)); (try (rotate_left; (· (intro hc; (try simp [hnt] at hc); done))))) | (refine DW_ret ?_; simp [Tryz.results77, hnt]) | ((first | refine DW_exit ?_ | refine DW_skip ?_); simp [hnt]) | (intro hc; (try simp [hnt] at hc); (try (exfalso; omega))) | (refine ⟨?_, ?_⟩; · omega) | omega | apply_assumption -exfalso -symm | (exfalso; omega)))
  · have hkk : k = es.length := by omega
    subst hkk
    rw [List.take_length] at hC
    have hks := keyStrs Ks
    have hRd : R = ns.filter fun n => !decide (n ∈ Ks) := by
      rw [hR]
      unfold loneL
      congr 1
      funext n
      simp only [hC.mem n]
    clear hR
    (repeat (first | refine DW_seq fun K hK => ?_ | (refine DW_r anWB1377 Tryz.mixed (by kernel_rfl) ?_; simp [anWB1377, hnt]; try simp (disch := omega) only [wrap64_in]) | refine DW_block ?_ | (refine DW_if ?_ ?_ ?_; (· (simp [hnt]; done)); (try (rotate_left; (· (intro hc; (try simp [hnt] at hc); done))))) | (refine DW_ret ?_; simp [Tryz.results77, hnt]) | ((first | refine DW_exit ?_ | refine DW_skip ?_); simp [hnt]) | (intro hc; (try simp [hnt] at hc); (try (exfalso; omega))) | (refine ⟨?_, ?_⟩; · omega) | omega | apply_assumption -exfalso -symm | (exfalso; omega)))
    refine DW_adoptS 6 6 9 1 16 (by simp [hnt, Tryz.ntmps77]) (fun n6 => ?_)
    refine DW_loop (X := {k : Nat // k ≤ ns.length}) (fun k => ⟨[(3, .omp 9 1), (6, .osl 6 1), (29, dStrs ns), (30, .int .i64 ns.length), (31, .int .i64 k.1)], [⟨9, 1, .map (strsD Ks) (intsV V)⟩, ⟨6, 1, .row 9 1 16 (((ns.take k.1).filter fun n => !decide (n ∈ Ks)).map dStr)⟩]⟩) (fun k => ns.length - k.1) ⟨0, by omega⟩ (Sub.lit (by simp)) ?_
    rintro ⟨k, hk⟩
    by_cases hlt : k < ns.length
    · obtain ⟨x, hx, hx', hxm⟩ := at_lt' hlt
      have htk : (ns.take (k + 1)).filter (fun n => !decide (n ∈ Ks)) = (ns.take k).filter (fun n => !decide (n ∈ Ks)) ++ (if x ∈ Ks then [] else [x]) := by
        rw [List.take_succ_eq_append_getElem hlt, hx', List.filter_append]
        by_cases hxu : x ∈ Ks <;> simp [hxu]
      have hl1 : ((ns.take k).filter fun n => !decide (n ∈ Ks)).length ≤ k := Nat.le_trans (List.length_filter_le ..) (List.length_take_le k ns)
      obtain ⟨W, hW⟩ : ∃ W, W = (ns.take k).filter fun n => !decide (n ∈ Ks) := ⟨_, rfl⟩
      rw [← hW] at htk hl1 ⊢
      have z1 : (W.length + 1) * 16 ≤ 150000000000000 := by omega
      have z2 : W.length + 1 ≤ 9223372036854775807 := by omega
      by_cases hxu : x ∈ Ks
      · obtain ⟨j, l1, l2⟩ := lookS_some hxu
        have l3 : j < V.length := by rw [← hC.len]; exact l2
        have hv := (hC.val V[j] (List.getElem_mem l3)).1
        have v1 : (intsV V)[j]? = some (.int .i64 V[j]) := by simp [intsV, l3]
        have hv0 : (V[j] == 0) = false := by simp; omega
        rw [if_pos hxu, List.append_nil] at htk
        (repeat (first | refine DW_seq fun K hK => ?_ | (refine DW_r anWB1377 Tryz.mixed (by kernel_rfl) ?_; simp [anWB1377, hnt, dStr, hlt, hx, hx', hks, l1, v1, hv0]; try simp (disch := omega) only [wrap64_in]) | refine DW_block ?_ | (refine DW_if ?_ ?_ ?_; (· (simp [hnt, dStr, hlt, hx, hx', hks, l1, v1, hv0]; done)); (try (rotate_left; (· (intro hc; (try simp [hnt, dStr, hlt, hx, hx', hks, l1, v1, hv0] at hc); done))))) | (refine DW_ret ?_; simp [Tryz.results77, hnt, dStr, hlt, hx, hx', hks, l1, v1, hv0]) | ((first | refine DW_exit ?_ | refine DW_skip ?_); simp [hnt, dStr, hlt, hx, hx', hks, l1, v1, hv0]) | (intro hc; (try simp [hnt, dStr, hlt, hx, hx', hks, l1, v1, hv0] at hc); (try (exfalso; omega))) | (refine ⟨?_, ?_⟩; · omega) | omega | apply_assumption -exfalso -symm | (exfalso; omega)))
        refine Again.mk ⟨k + 1, by omega⟩ (Sub.lit (by simp only [htk]; simp)) (by simp; omega)
        (repeat (first | refine DW_seq fun K hK => ?_ | (refine DW_r anWB1377 Tryz.mixed (by kernel_rfl) ?_; simp [anWB1377, hnt]; try simp (disch := omega) only [wrap64_in]) | refine DW_block ?_ | (refine DW_if ?_ ?_ ?_; (· (simp [hnt]; done)); (try (rotate_left; (· (intro hc; (try simp [hnt] at hc); done))))) | (refine DW_ret ?_; simp [Tryz.results77, hnt]) | ((first | refine DW_exit ?_ | refine DW_skip ?_); simp [hnt]) | (intro hc; (try simp [hnt] at hc); (try (exfalso; omega))) | (refine ⟨?_, ?_⟩; · omega) | omega | apply_assumption -exfalso -symm | (exfalso; omega)))
      · have l1 := lookS_none hxu
        rw [if_neg hxu] at htk
        (repeat (first | refine DW_seq fun K hK => ?_ | (refine DW_r anWB1377 Tryz.mixed (by kernel_rfl) ?_; simp [anWB1377, hnt, dStr, hlt, hx, hx', hks, l1, z1, z2]; try simp (disch := omega) only [wrap64_in]) | refine DW_block ?_ | (refine DW_if ?_ ?_ ?_; (· (simp [hnt, dStr, hlt, hx, hx', hks, l1, z1, z2]; done)); (try (rotate_left; (· (intro hc; (try simp [hnt, dStr, hlt, hx, hx', hks, l1, z1, z2] at hc); done))))) | (refine DW_ret ?_; simp [Tryz.results77, hnt, dStr, hlt, hx, hx', hks, l1, z1, z2]) | ((first | refine DW_exit ?_ | refine DW_skip ?_); simp [hnt, dStr, hlt, hx, hx', hks, l1, z1, z2]) | (intro hc; (try simp [hnt, dStr, hlt, hx, hx', hks, l1, z1, z2] at hc); (try (exfalso; omega))) | (refine ⟨?_, ?_⟩; · omega) | omega | apply_assumption -exfalso -symm | (exfalso; omega)))
        refine Again.mk ⟨k + 1, by omega⟩ (Sub.lit (by simp only [htk]; simp [dStr])) (by simp; omega)
        (repeat (first | refine DW_seq fun K hK => ?_ | (refine DW_r anWB1377 Tryz.mixed (by kernel_rfl) ?_; simp [anWB1377, hnt]; try simp (disch := omega) only [wrap64_in]) | refine DW_block ?_ | (refine DW_if ?_ ?_ ?_; (· (simp [hnt]; done)); (try (rotate_left; (· (intro hc; (try simp [hnt] at hc); done))))) | (refine DW_ret ?_; simp [Tryz.results77, hnt]) | ((first | refine DW_exit ?_ | refine DW_skip ?_); simp [hnt]) | (intro hc; (try simp [hnt] at hc); (try (exfalso; omega))) | (refine ⟨?_, ?_⟩; · omega) | omega | apply_assumption -exfalso -symm | (exfalso; omega)))
    · have hkk : k = ns.length := by omega
      subst hkk
      rw [List.take_length, ← hRd]
      (repeat (first | refine DW_seq fun K hK => ?_ | (refine DW_r anWB1377 Tryz.mixed (by kernel_rfl) ?_; simp [anWB1377, hnt]; try simp (disch := omega) only [wrap64_in]) | refine DW_block ?_ | (refine DW_if ?_ ?_ ?_; (· (simp [hnt]; done)); (try (rotate_left; (· (intro hc; (try simp [hnt] at hc); done))))) | (refine DW_ret ?_; simp [Tryz.results77, hnt]) | ((first | refine DW_exit ?_ | refine DW_skip ?_); simp [hnt]) | (intro hc; (try simp [hnt] at hc); (try (exfalso; omega))) | (refine ⟨?_, ?_⟩; · omega) | omega | apply_assumption -exfalso -symm | (exfalso; omega)))
end Go.Proofs.YtffdjbdokgbibaaGreat
end

