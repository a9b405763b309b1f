/- Parts of a proof, laid together: WR3, W94, W25, WR4. -/
import Derived.Test.YtihkcegelghcpaaqCr6
import Derived.Test.YtihkcegelghcpaaqCr8
import Derived.Test.YtihkcegelghcpaaqCr9
section
/- names that are told apart: Name, Place, unlike, Unlike -/


set_option linter.unusedSimpArgs false
set_option linter.unusedVariables false
namespace Go.Proofs.Ytihkcegelghcpaa
open Go Go.Dm
attribute [local irreducible] DW callP callS
set_option maxRecDepth 100000

def anWR3113 : Ann := ⟨[], []⟩
theorem rname113_pure (k c : Int) (hk : k = 2 ∧ c = 85 ∨ k = 3 ∧ c = 76) (s : ByteArray) : DPure Try.prog 113 [.str s, .int .u8 c] (.bool (txtOK k s)) := by
  refine DPure_introF [] (fn := Try.f113) Try.func113 rfl Try.call113 (by simp [Try.ntmps113]) (by simp [mx]) ?_
  intro hwf B hnt
  have hsz : s.size ≤ 9223372036854775807 := by have := hwf.1; simp only [wfD, maxLen] at this; omega
  clear hwf
  simp only [argS]
  obtain ⟨R, hR⟩ : ∃ R, R = txtOK k s := ⟨_, rfl⟩
  rw [← hR]
  unfold txtOK at hR
  by_cases h1 : 1 ≤ s.size
  · by_cases h2 : s.size ≤ 16
    · have g1 : ¬ (s.size : Int) < 1 := by omega
      have g2 : ¬ (16 : Int) < s.size := by omega
      have g0 : 0 < s.size := by omega
      obtain ⟨b0, hb0, hb0', _⟩ := at_lt' (show 0 < s.data.toList.length by rw [size_toList]; omega)
      (repeat (first | (refine DW_seq fun K hK => ?_) | (refine DW_r anWR3113 Try.mixed (by kernel_rfl) ?_; simp [hnt, Try.ntmps113, Try.results113, anWR3113, g0, g1, g2, h1, h2]; try simp (disch := omega) only [wrap64_in]) | (refine DW_block ?_) | (focus (refine DW_if ?_ ?_ ?_; (· (simp [hnt, Try.ntmps113, Try.results113, anWR3113, g0, g1, g2, h1, h2]; done)); (try (rotate_left; (· (intro hc; (try simp [hnt, Try.ntmps113, Try.results113, anWR3113, g0, g1, g2, h1, h2] at hc); done)))))) | (refine DW_ret ?_; simp [hnt, Try.ntmps113, Try.results113, anWR3113, g0, g1, g2, h1, h2]) | (refine DW_exit ?_; simp [hnt, Try.ntmps113, Try.results113, anWR3113, g0, g1, g2, h1, h2]) | (refine DW_skip ?_; simp [hnt, Try.ntmps113, Try.results113, anWR3113, g0, g1, g2, h1, h2]) | (intro hc; (try simp [hnt, Try.ntmps113, Try.results113, anWR3113, g0, g1, g2, h1, h2] at hc); done) | (intro hc; (try simp [hnt, Try.ntmps113, Try.results113, anWR3113, g0, g1, g2, h1, h2] at hc); (first | (exfalso; omega) | skip)) | (refine ⟨?_, ?_⟩; · omega) | omega | apply_assumption -exfalso -symm | (exfalso; omega)))
      refine DW_loop (X := {k : Nat // k ≤ s.size ∧ letS s = ((s.data.toList.drop k).all fun b => letB (b.toNat : Int))}) (fun k => ⟨[(0, .str s), (1, .int .u8 c), (5, .int .i64 k.1)], []⟩) (fun k => s.size - k.1) ⟨0, by simp [letS]⟩ (Sub.lit (by simp)) ?_
      rintro ⟨j, hj, hl⟩
      by_cases hlt : j < s.size
      · obtain ⟨b, hb, hb', _⟩ := at_lt' (show j < s.data.toList.length by rw [size_toList]; exact hlt)
        rw [List.drop_eq_getElem_cons (by rw [size_toList]; exact hlt), hb', List.all_cons] at hl
        have e1 := inner153_pure (b.toNat : Int)
        cases hL : letB (b.toNat : Int)
        · rw [hL] at e1 hl
          have hR2 : R = false := by rw [hR]; unfold nameOK; rw [hl]; simp
          subst hR2
          (repeat (first | (refine DW_seq fun K hK => ?_) | (refine DW_r anWR3113 Try.mixed (by kernel_rfl) ?_; simp [hnt, Try.ntmps113, Try.results113, anWR3113, hlt, hb, hb']; try simp (disch := omega) only [wrap64_in]) | (refine DW_block ?_) | (focus (refine DW_if ?_ ?_ ?_; (· (simp [hnt, Try.ntmps113, Try.results113, anWR3113, hlt, hb, hb']; done)); (try (rotate_left; (· (intro hc; (try simp [hnt, Try.ntmps113, Try.results113, anWR3113, hlt, hb, hb'] at hc); done)))))) | (refine DW_ret ?_; simp [hnt, Try.ntmps113, Try.results113, anWR3113, hlt, hb, hb']) | (refine DW_exit ?_; simp [hnt, Try.ntmps113, Try.results113, anWR3113, hlt, hb, hb']) | (refine DW_skip ?_; simp [hnt, Try.ntmps113, Try.results113, anWR3113, hlt, hb, hb']) | (intro hc; (try simp [hnt, Try.ntmps113, Try.results113, anWR3113, hlt, hb, hb'] at hc); done) | (intro hc; (try simp [hnt, Try.ntmps113, Try.results113, anWR3113, hlt, hb, hb'] at hc); (first | (exfalso; omega) | skip)) | (refine callP_mk (e1) ?_; try simp [hnt, Try.ntmps113, Try.results113, anWR3113, hlt, hb, hb']) | (refine callP_wk (e1) ?_ ?_; (· (simp; done)); try simp [hnt, Try.ntmps113, Try.results113, anWR3113, hlt, hb, hb']) | (refine ⟨?_, ?_⟩; · omega) | omega | apply_assumption -exfalso -symm | (exfalso; omega)))
        · rw [hL] at e1 hl
          simp only [Bool.true_and] at hl
          (repeat (first | (refine DW_seq fun K hK => ?_) | (refine DW_r anWR3113 Try.mixed (by kernel_rfl) ?_; simp [hnt, Try.ntmps113, Try.results113, anWR3113, hlt, hb, hb']; try simp (disch := omega) only [wrap64_in]) | (refine DW_block ?_) | (focus (refine DW_if ?_ ?_ ?_; (· (simp [hnt, Try.ntmps113, Try.results113, anWR3113, hlt, hb, hb']; done)); (try (rotate_left; (· (intro hc; (try simp [hnt, Try.ntmps113, Try.results113, anWR3113, hlt, hb, hb'] at hc); done)))))) | (refine DW_ret ?_; simp [hnt, Try.ntmps113, Try.results113, anWR3113, hlt, hb, hb']) | (refine DW_exit ?_; simp [hnt, Try.ntmps113, Try.results113, anWR3113, hlt, hb, hb']) | (refine DW_skip ?_; simp [hnt, Try.ntmps113, Try.results113, anWR3113, hlt, hb, hb']) | (intro hc; (try simp [hnt, Try.ntmps113, Try.results113, anWR3113, hlt, hb, hb'] at hc); done) | (intro hc; (try simp [hnt, Try.ntmps113, Try.results113, anWR3113, hlt, hb, hb'] at hc); (first | (exfalso; omega) | skip)) | (refine callP_mk (e1) ?_; try simp [hnt, Try.ntmps113, Try.results113, anWR3113, hlt, hb, hb']) | (refine callP_wk (e1) ?_ ?_; (· (simp; done)); try simp [hnt, Try.ntmps113, Try.results113, anWR3113, hlt, hb, hb']) | (refine ⟨?_, ?_⟩; · omega) | omega | apply_assumption -exfalso -symm | (exfalso; omega)))
          refine Again.mk ⟨j + 1, by omega, hl⟩ (Sub.lit (by simp)) (by simp; omega)
          (repeat (first | (refine DW_seq fun K hK => ?_) | (refine DW_r anWR3113 Try.mixed (by kernel_rfl) ?_; simp [hnt, Try.ntmps113, Try.results113, anWR3113]; try simp (disch := omega) only [wrap64_in]) | (refine DW_block ?_) | (focus (refine DW_if ?_ ?_ ?_; (· (simp [hnt, Try.ntmps113, Try.results113, anWR3113]; done)); (try (rotate_left; (· (intro hc; (try simp [hnt, Try.ntmps113, Try.results113, anWR3113] at hc); done)))))) | (refine DW_ret ?_; simp [hnt, Try.ntmps113, Try.results113, anWR3113]) | (refine DW_exit ?_; simp [hnt, Try.ntmps113, Try.results113, anWR3113]) | (refine DW_skip ?_; simp [hnt, Try.ntmps113, Try.results113, anWR3113]) | (intro hc; (try simp [hnt, Try.ntmps113, Try.results113, anWR3113] at hc); done) | (intro hc; (try simp [hnt, Try.ntmps113, Try.results113, anWR3113] at hc); (first | (exfalso; omega) | skip)) | (refine callP_mk (e1) ?_; try simp [hnt, Try.ntmps113, Try.results113, anWR3113]) | (refine callP_wk (e1) ?_ ?_; (· (simp; done)); try simp [hnt, Try.ntmps113, Try.results113, anWR3113]) | (refine ⟨?_, ?_⟩; · omega) | omega | apply_assumption -exfalso -symm | (exfalso; omega)))
      · have hkk : j = s.size := by omega
        subst hkk
        rw [← size_toList, List.drop_length] at hl
        have hN : nameOK s = true := by unfold nameOK; rw [hl]; simp [h1, h2]
        rw [hN] at hR
        simp only [headQ_at hb0, Bool.true_and] at hR
        have e1 := rupper154_pure (b0.toNat : Int)
        have e2 := rlower155_pure (b0.toNat : Int)
        rcases hk with ⟨rfl, rfl⟩ | ⟨rfl, rfl⟩
        · simp only [if_true] at hR
          rw [← hR] at e1
          cases R
          · (repeat (first | (refine DW_seq fun K hK => ?_) | (refine DW_r anWR3113 Try.mixed (by kernel_rfl) ?_; simp [hnt, Try.ntmps113, Try.results113, anWR3113, g0, hb0, hb0']; try simp (disch := omega) only [wrap64_in]) | (refine DW_block ?_) | (focus (refine DW_if ?_ ?_ ?_; (· (simp [hnt, Try.ntmps113, Try.results113, anWR3113, g0, hb0, hb0']; done)); (try (rotate_left; (· (intro hc; (try simp [hnt, Try.ntmps113, Try.results113, anWR3113, g0, hb0, hb0'] at hc); done)))))) | (refine DW_ret ?_; simp [hnt, Try.ntmps113, Try.results113, anWR3113, g0, hb0, hb0']) | (refine DW_exit ?_; simp [hnt, Try.ntmps113, Try.results113, anWR3113, g0, hb0, hb0']) | (refine DW_skip ?_; simp [hnt, Try.ntmps113, Try.results113, anWR3113, g0, hb0, hb0']) | (intro hc; (try simp [hnt, Try.ntmps113, Try.results113, anWR3113, g0, hb0, hb0'] at hc); done) | (intro hc; (try simp [hnt, Try.ntmps113, Try.results113, anWR3113, g0, hb0, hb0'] at hc); (first | (exfalso; omega) | skip)) | (refine callP_mk (e1) ?_; try simp [hnt, Try.ntmps113, Try.results113, anWR3113, g0, hb0, hb0']) | (refine callP_wk (e1) ?_ ?_; (· (simp; done)); try simp [hnt, Try.ntmps113, Try.results113, anWR3113, g0, hb0, hb0']) | (refine callP_mk (e2) ?_; try simp [hnt, Try.ntmps113, Try.results113, anWR3113, g0, hb0, hb0']) | (refine callP_wk (e2) ?_ ?_; (· (simp; done)); try simp [hnt, Try.ntmps113, Try.results113, anWR3113, g0, hb0, hb0']) | (refine ⟨?_, ?_⟩; · omega) | omega | apply_assumption -exfalso -symm | (exfalso; omega)))
          · (repeat (first | (refine DW_seq fun K hK => ?_) | (refine DW_r anWR3113 Try.mixed (by kernel_rfl) ?_; simp [hnt, Try.ntmps113, Try.results113, anWR3113, g0, hb0, hb0']; try simp (disch := omega) only [wrap64_in]) | (refine DW_block ?_) | (focus (refine DW_if ?_ ?_ ?_; (· (simp [hnt, Try.ntmps113, Try.results113, anWR3113, g0, hb0, hb0']; done)); (try (rotate_left; (· (intro hc; (try simp [hnt, Try.ntmps113, Try.results113, anWR3113, g0, hb0, hb0'] at hc); done)))))) | (refine DW_ret ?_; simp [hnt, Try.ntmps113, Try.results113, anWR3113, g0, hb0, hb0']) | (refine DW_exit ?_; simp [hnt, Try.ntmps113, Try.results113, anWR3113, g0, hb0, hb0']) | (refine DW_skip ?_; simp [hnt, Try.ntmps113, Try.results113, anWR3113, g0, hb0, hb0']) | (intro hc; (try simp [hnt, Try.ntmps113, Try.results113, anWR3113, g0, hb0, hb0'] at hc); done) | (intro hc; (try simp [hnt, Try.ntmps113, Try.results113, anWR3113, g0, hb0, hb0'] at hc); (first | (exfalso; omega) | skip)) | (refine callP_mk (e1) ?_; try simp [hnt, Try.ntmps113, Try.results113, anWR3113, g0, hb0, hb0']) | (refine callP_wk (e1) ?_ ?_; (· (simp; done)); try simp [hnt, Try.ntmps113, Try.results113, anWR3113, g0, hb0, hb0']) | (refine callP_mk (e2) ?_; try simp [hnt, Try.ntmps113, Try.results113, anWR3113, g0, hb0, hb0']) | (refine callP_wk (e2) ?_ ?_; (· (simp; done)); try simp [hnt, Try.ntmps113, Try.results113, anWR3113, g0, hb0, hb0']) | (refine ⟨?_, ?_⟩; · omega) | omega | apply_assumption -exfalso -symm | (exfalso; omega)))
        · simp only [show ¬ (3 : Int) = 2 by omega, if_false] at hR
          rw [← hR] at e2
          cases R
          · (repeat (first | (refine DW_seq fun K hK => ?_) | (refine DW_r anWR3113 Try.mixed (by kernel_rfl) ?_; simp [hnt, Try.ntmps113, Try.results113, anWR3113, g0, hb0, hb0']; try simp (disch := omega) only [wrap64_in]) | (refine DW_block ?_) | (focus (refine DW_if ?_ ?_ ?_; (· (simp [hnt, Try.ntmps113, Try.results113, anWR3113, g0, hb0, hb0']; done)); (try (rotate_left; (· (intro hc; (try simp [hnt, Try.ntmps113, Try.results113, anWR3113, g0, hb0, hb0'] at hc); done)))))) | (refine DW_ret ?_; simp [hnt, Try.ntmps113, Try.results113, anWR3113, g0, hb0, hb0']) | (refine DW_exit ?_; simp [hnt, Try.ntmps113, Try.results113, anWR3113, g0, hb0, hb0']) | (refine DW_skip ?_; simp [hnt, Try.ntmps113, Try.results113, anWR3113, g0, hb0, hb0']) | (intro hc; (try simp [hnt, Try.ntmps113, Try.results113, anWR3113, g0, hb0, hb0'] at hc); done) | (intro hc; (try simp [hnt, Try.ntmps113, Try.results113, anWR3113, g0, hb0, hb0'] at hc); (first | (exfalso; omega) | skip)) | (refine callP_mk (e1) ?_; try simp [hnt, Try.ntmps113, Try.results113, anWR3113, g0, hb0, hb0']) | (refine callP_wk (e1) ?_ ?_; (· (simp; done)); try simp [hnt, Try.ntmps113, Try.results113, anWR3113, g0, hb0, hb0']) | (refine callP_mk (e2) ?_; try simp [hnt, Try.ntmps113, Try.results113, anWR3113, g0, hb0, hb0']) | (refine callP_wk (e2) ?_ ?_; (· (simp; done)); try simp [hnt, Try.ntmps113, Try.results113, anWR3113, g0, hb0, hb0']) | (refine ⟨?_, ?_⟩; · omega) | omega | apply_assumption -exfalso -symm | (exfalso; omega)))
          · (repeat (first | (refine DW_seq fun K hK => ?_) | (refine DW_r anWR3113 Try.mixed (by kernel_rfl) ?_; simp [hnt, Try.ntmps113, Try.results113, anWR3113, g0, hb0, hb0']; try simp (disch := omega) only [wrap64_in]) | (refine DW_block ?_) | (focus (refine DW_if ?_ ?_ ?_; (· (simp [hnt, Try.ntmps113, Try.results113, anWR3113, g0, hb0, hb0']; done)); (try (rotate_left; (· (intro hc; (try simp [hnt, Try.ntmps113, Try.results113, anWR3113, g0, hb0, hb0'] at hc); done)))))) | (refine DW_ret ?_; simp [hnt, Try.ntmps113, Try.results113, anWR3113, g0, hb0, hb0']) | (refine DW_exit ?_; simp [hnt, Try.ntmps113, Try.results113, anWR3113, g0, hb0, hb0']) | (refine DW_skip ?_; simp [hnt, Try.ntmps113, Try.results113, anWR3113, g0, hb0, hb0']) | (intro hc; (try simp [hnt, Try.ntmps113, Try.results113, anWR3113, g0, hb0, hb0'] at hc); done) | (intro hc; (try simp [hnt, Try.ntmps113, Try.results113, anWR3113, g0, hb0, hb0'] at hc); (first | (exfalso; omega) | skip)) | (refine callP_mk (e1) ?_; try simp [hnt, Try.ntmps113, Try.results113, anWR3113, g0, hb0, hb0']) | (refine callP_wk (e1) ?_ ?_; (· (simp; done)); try simp [hnt, Try.ntmps113, Try.results113, anWR3113, g0, hb0, hb0']) | (refine callP_mk (e2) ?_; try simp [hnt, Try.ntmps113, Try.results113, anWR3113, g0, hb0, hb0']) | (refine callP_wk (e2) ?_ ?_; (· (simp; done)); try simp [hnt, Try.ntmps113, Try.results113, anWR3113, g0, hb0, hb0']) | (refine ⟨?_, ?_⟩; · omega) | omega | apply_assumption -exfalso -symm | (exfalso; omega)))
    · have g1 : ¬ (s.size : Int) < 1 := by omega
      have g2 : (16 : Int) < s.size := by omega
      have hR2 : R = false := by rw [hR]; unfold nameOK; simp [h2]
      subst hR2
      (repeat (first | (refine DW_seq fun K hK => ?_) | (refine DW_r anWR3113 Try.mixed (by kernel_rfl) ?_; simp [hnt, Try.ntmps113, Try.results113, anWR3113, g1, g2, h1, h2]; try simp (disch := omega) only [wrap64_in]) | (refine DW_block ?_) | (focus (refine DW_if ?_ ?_ ?_; (· (simp [hnt, Try.ntmps113, Try.results113, anWR3113, g1, g2, h1, h2]; done)); (try (rotate_left; (· (intro hc; (try simp [hnt, Try.ntmps113, Try.results113, anWR3113, g1, g2, h1, h2] at hc); done)))))) | (refine DW_ret ?_; simp [hnt, Try.ntmps113, Try.results113, anWR3113, g1, g2, h1, h2]) | (refine DW_exit ?_; simp [hnt, Try.ntmps113, Try.results113, anWR3113, g1, g2, h1, h2]) | (refine DW_skip ?_; simp [hnt, Try.ntmps113, Try.results113, anWR3113, g1, g2, h1, h2]) | (intro hc; (try simp [hnt, Try.ntmps113, Try.results113, anWR3113, g1, g2, h1, h2] at hc); done) | (intro hc; (try simp [hnt, Try.ntmps113, Try.results113, anWR3113, g1, g2, h1, h2] at hc); (first | (exfalso; omega) | skip)) | (refine ⟨?_, ?_⟩; · omega) | omega | apply_assumption -exfalso -symm | (exfalso; omega)))
  · have g1 : (s.size : Int) < 1 := by omega
    have hR2 : R = false := by rw [hR]; unfold nameOK; simp [h1]
    subst hR2
    (repeat (first | (refine DW_seq fun K hK => ?_) | (refine DW_r anWR3113 Try.mixed (by kernel_rfl) ?_; simp [hnt, Try.ntmps113, Try.results113, anWR3113, g1, h1]; try simp (disch := omega) only [wrap64_in]) | (refine DW_block ?_) | (focus (refine DW_if ?_ ?_ ?_; (· (simp [hnt, Try.ntmps113, Try.results113, anWR3113, g1, h1]; done)); (try (rotate_left; (· (intro hc; (try simp [hnt, Try.ntmps113, Try.results113, anWR3113, g1, h1] at hc); done)))))) | (refine DW_ret ?_; simp [hnt, Try.ntmps113, Try.results113, anWR3113, g1, h1]) | (refine DW_exit ?_; simp [hnt, Try.ntmps113, Try.results113, anWR3113, g1, h1]) | (refine DW_skip ?_; simp [hnt, Try.ntmps113, Try.results113, anWR3113, g1, h1]) | (intro hc; (try simp [hnt, Try.ntmps113, Try.results113, anWR3113, g1, h1] at hc); done) | (intro hc; (try simp [hnt, Try.ntmps113, Try.results113, anWR3113, g1, h1] at hc); (first | (exfalso; omega) | skip)) | (refine ⟨?_, ?_⟩; · omega) | omega | apply_assumption -exfalso -symm | (exfalso; omega)))

def anWR3114 : Ann := ⟨[], []⟩
theorem place114_pure (l : List ByteArray) (s : ByteArray) : DPure Try.prog 114 [dStrs l, .str s] (.int .i64 (placeS l s)) := by
  refine DPure_introF [] (fn := Try.f114) Try.func114 rfl Try.call114 (by simp [Try.ntmps114]) (by simp [mx]) ?_
  intro hwf B hnt
  have hlen := len_strs hwf.1
  clear hwf
  simp only [argS]
  obtain ⟨R, hR⟩ : ∃ R, R = placeS l s := ⟨_, rfl⟩
  rw [← hR]
  (repeat (first | (refine DW_seq fun K hK => ?_) | (refine DW_r anWR3114 Try.mixed (by kernel_rfl) ?_; simp [hnt, Try.ntmps114, Try.results114, anWR3114]; try simp (disch := omega) only [wrap64_in]) | (refine DW_block ?_) | (focus (refine DW_if ?_ ?_ ?_; (· (simp [hnt, Try.ntmps114, Try.results114, anWR3114]; done)); (try (rotate_left; (· (intro hc; (try simp [hnt, Try.ntmps114, Try.results114, anWR3114] at hc); done)))))) | (refine DW_ret ?_; simp [hnt, Try.ntmps114, Try.results114, anWR3114]) | (refine DW_exit ?_; simp [hnt, Try.ntmps114, Try.results114, anWR3114]) | (refine DW_skip ?_; simp [hnt, Try.ntmps114, Try.results114, anWR3114]) | (intro hc; (try simp [hnt, Try.ntmps114, Try.results114, anWR3114] at hc); done) | (intro hc; (try simp [hnt, Try.ntmps114, Try.results114, anWR3114] at hc); (first | (exfalso; omega) | skip)) | (refine ⟨?_, ?_⟩; · omega) | omega | apply_assumption -exfalso -symm | (exfalso; omega)))
  refine DW_loop (X := {k : Nat // k ≤ l.length ∧ ∀ i x, i < k → l[i]? = some x → (s == x) = false}) (fun x => ⟨[(0, dStrs l), (1, .str s), (5, .int .i64 x.1)], []⟩) (fun x => l.length - x.1) ⟨0, by simp⟩ (Sub.lit (by simp)) ?_
  rintro ⟨k, hk, hno⟩
  by_cases hlt : k < l.length
  · obtain ⟨x, hx, hx', hxm⟩ := at_lt' hlt
    cases hb : s == x
    · have hb' : (x == s) = false := by rw [Bool.eq_false_iff] at hb ⊢; simp at hb ⊢; exact fun h => hb h.symm
      (repeat (first | (refine DW_seq fun K hK => ?_) | (refine DW_r anWR3114 Try.mixed (by kernel_rfl) ?_; simp [hnt, Try.ntmps114, Try.results114, anWR3114, dStr, hlt, hx', hx, hb']; try simp (disch := omega) only [wrap64_in]) | (refine DW_block ?_) | (focus (refine DW_if ?_ ?_ ?_; (· (simp [hnt, Try.ntmps114, Try.results114, anWR3114, dStr, hlt, hx', hx, hb']; done)); (try (rotate_left; (· (intro hc; (try simp [hnt, Try.ntmps114, Try.results114, anWR3114, dStr, hlt, hx', hx, hb'] at hc); done)))))) | (refine DW_ret ?_; simp [hnt, Try.ntmps114, Try.results114, anWR3114, dStr, hlt, hx', hx, hb']) | (refine DW_exit ?_; simp [hnt, Try.ntmps114, Try.results114, anWR3114, dStr, hlt, hx', hx, hb']) | (refine DW_skip ?_; simp [hnt, Try.ntmps114, Try.results114, anWR3114, dStr, hlt, hx', hx, hb']) | (intro hc; (try simp [hnt, Try.ntmps114, Try.results114, anWR3114, dStr, hlt, hx', hx, hb'] at hc); done) | (intro hc; (try simp [hnt, Try.ntmps114, Try.results114, anWR3114, dStr, hlt, hx', hx, hb'] at hc); (first | (exfalso; omega) | skip)) | (refine ⟨?_, ?_⟩; · omega) | omega | apply_assumption -exfalso -symm | (exfalso; omega)))
      exact Again.mk ⟨k + 1, by omega, hno_next hx hb hno⟩ (Sub.lit (by simp [])) (by simp; omega)
      (repeat (first | (refine DW_seq fun K hK => ?_) | (refine DW_r anWR3114 Try.mixed (by kernel_rfl) ?_; simp [hnt, Try.ntmps114, Try.results114, anWR3114]; try simp (disch := omega) only [wrap64_in]) | (refine DW_block ?_) | (focus (refine DW_if ?_ ?_ ?_; (· (simp [hnt, Try.ntmps114, Try.results114, anWR3114]; done)); (try (rotate_left; (· (intro hc; (try simp [hnt, Try.ntmps114, Try.results114, anWR3114] at hc); done)))))) | (refine DW_ret ?_; simp [hnt, Try.ntmps114, Try.results114, anWR3114]) | (refine DW_exit ?_; simp [hnt, Try.ntmps114, Try.results114, anWR3114]) | (refine DW_skip ?_; simp [hnt, Try.ntmps114, Try.results114, anWR3114]) | (intro hc; (try simp [hnt, Try.ntmps114, Try.results114, anWR3114] at hc); done) | (intro hc; (try simp [hnt, Try.ntmps114, Try.results114, anWR3114] at hc); (first | (exfalso; omega) | skip)) | (refine ⟨?_, ?_⟩; · omega) | omega | apply_assumption -exfalso -symm | (exfalso; omega)))
    · have hb' : (x == s) = true := by simp at hb ⊢; exact hb.symm
      have hRk : R = k := by rw [hR]; exact placeS_some hlt (by rw [hx']; exact (by simpa using hb : s = x).symm) hno
      subst hRk
      (repeat (first | (refine DW_seq fun K hK => ?_) | (refine DW_r anWR3114 Try.mixed (by kernel_rfl) ?_; simp [hnt, Try.ntmps114, Try.results114, anWR3114, dStr, hlt, hx', hx, hb']; try simp (disch := omega) only [wrap64_in]) | (refine DW_block ?_) | (focus (refine DW_if ?_ ?_ ?_; (· (simp [hnt, Try.ntmps114, Try.results114, anWR3114, dStr, hlt, hx', hx, hb']; done)); (try (rotate_left; (· (intro hc; (try simp [hnt, Try.ntmps114, Try.results114, anWR3114, dStr, hlt, hx', hx, hb'] at hc); done)))))) | (refine DW_ret ?_; simp [hnt, Try.ntmps114, Try.results114, anWR3114, dStr, hlt, hx', hx, hb']) | (refine DW_exit ?_; simp [hnt, Try.ntmps114, Try.results114, anWR3114, dStr, hlt, hx', hx, hb']) | (refine DW_skip ?_; simp [hnt, Try.ntmps114, Try.results114, anWR3114, dStr, hlt, hx', hx, hb']) | (intro hc; (try simp [hnt, Try.ntmps114, Try.results114, anWR3114, dStr, hlt, hx', hx, hb'] at hc); done) | (intro hc; (try simp [hnt, Try.ntmps114, Try.results114, anWR3114, dStr, hlt, hx', hx, hb'] at hc); (first | (exfalso; omega) | skip)) | (refine ⟨?_, ?_⟩; · omega) | omega | apply_assumption -exfalso -symm | (exfalso; omega)))
  · have hkk : k = l.length := by omega
    subst hkk
    have hRk : R = -1 := by rw [hR]; exact placeS_none hno
    subst hRk
    (repeat (first | (refine DW_seq fun K hK => ?_) | (refine DW_r anWR3114 Try.mixed (by kernel_rfl) ?_; simp [hnt, Try.ntmps114, Try.results114, anWR3114]; try simp (disch := omega) only [wrap64_in]) | (refine DW_block ?_) | (focus (refine DW_if ?_ ?_ ?_; (· (simp [hnt, Try.ntmps114, Try.results114, anWR3114]; done)); (try (rotate_left; (· (intro hc; (try simp [hnt, Try.ntmps114, Try.results114, anWR3114] at hc); done)))))) | (refine DW_ret ?_; simp [hnt, Try.ntmps114, Try.results114, anWR3114]) | (refine DW_exit ?_; simp [hnt, Try.ntmps114, Try.results114, anWR3114]) | (refine DW_skip ?_; simp [hnt, Try.ntmps114, Try.results114, anWR3114]) | (intro hc; (try simp [hnt, Try.ntmps114, Try.results114, anWR3114] at hc); done) | (intro hc; (try simp [hnt, Try.ntmps114, Try.results114, anWR3114] at hc); (first | (exfalso; omega) | skip)) | (refine ⟨?_, ?_⟩; · omega) | omega | apply_assumption -exfalso -symm | (exfalso; omega)))

def okAt (k : Int) (l : List ByteArray) (p : ByteArray × Nat) : Bool := txtOK k p.1 && !decide (0 ≤ placeS (l.take p.2) p.1)
def unlikeB (k : Int) (l : List ByteArray) : Bool := l.zipIdx.all (okAt k l)
theorem placeS_nonneg {l : List ByteArray} {s : ByteArray} : 0 ≤ placeS l s ↔ s ∈ l := by
  unfold placeS
  constructor
  · intro h
    split at h
    · rename_i hh
      rw [List.any_eq_true] at hh
      obtain ⟨x, hx, he⟩ := hh
      rw [beq_iff_eq] at he
      rw [he]; exact hx
    · omega
  · intro h
    rw [if_pos (List.any_eq_true.2 ⟨s, h, by simp⟩)]
    omega
theorem place_here {l : List ByteArray} {s : ByteArray} {k : Nat} (hx : l[k]? = some s) : (placeS l s = k) ↔ ¬ 0 ≤ placeS (l.take k) s := by
  rw [placeS_nonneg]
  obtain ⟨hk, rfl⟩ := List.getElem?_eq_some_iff.1 hx
  constructor
  · intro h hm
    unfold placeS at h
    split at h
    · have h' : (l.findIdx fun x => l[k] == x) = k := by omega
      rw [List.findIdx_eq hk] at h'
      obtain ⟨i, hi, he⟩ := List.getElem_of_mem hm
      rw [List.length_take] at hi
      have := h'.2 i (by omega)
      rw [List.getElem_take] at he
      rw [he] at this
      simp at this
    · omega
  · intro h
    refine placeS_some hk rfl fun i x hi hx => ?_
    rw [Bool.eq_false_iff]
    intro he
    rw [beq_iff_eq] at he
    exact h (he ▸ List.mem_iff_getElem?.2 ⟨i, by rw [List.getElem?_take_of_lt hi]; exact hx⟩)

def anWR376 : Ann := ⟨[], []⟩
theorem unlike76_pure (l : List ByteArray) (k : Int) (hk : k = 2 ∨ k = 3) : DPure Try.prog 76 [dStrs l, .int .i64 k] (.bool (unlikeB k l)) := by
  refine DPure_introF [] (fn := Try.f76) Try.func76 rfl Try.call76 (by simp [Try.ntmps76]) (by simp [mx]) ?_
  intro hwf B hnt
  have hlen := len_strs hwf.1
  clear hwf
  simp only [argS]
  obtain ⟨R, hR⟩ : ∃ R, R = unlikeB k l := ⟨_, rfl⟩
  rw [← hR]
  unfold unlikeB at hR
  (repeat (first | (refine DW_seq fun K hK => ?_) | (refine DW_r anWR376 Try.mixed (by kernel_rfl) ?_; simp [hnt, Try.ntmps76, Try.results76, anWR376]; try simp (disch := omega) only [wrap64_in]) | (refine DW_block ?_) | (focus (refine DW_if ?_ ?_ ?_; (· (simp [hnt, Try.ntmps76, Try.results76, anWR376]; done)); (try (rotate_left; (· (intro hc; (try simp [hnt, Try.ntmps76, Try.results76, anWR376] at hc); done)))))) | (refine DW_ret ?_; simp [hnt, Try.ntmps76, Try.results76, anWR376]) | (refine DW_exit ?_; simp [hnt, Try.ntmps76, Try.results76, anWR376]) | (refine DW_skip ?_; simp [hnt, Try.ntmps76, Try.results76, anWR376]) | (intro hc; (try simp [hnt, Try.ntmps76, Try.results76, anWR376] at hc); done) | (intro hc; (try simp [hnt, Try.ntmps76, Try.results76, anWR376] at hc); (first | (exfalso; omega) | skip)) | (refine ⟨?_, ?_⟩; · omega) | omega | apply_assumption -exfalso -symm | (exfalso; omega)))
  refine DW_loop (X := {j : Nat // j ≤ l.length ∧ R = (l.zipIdx.drop j).all (okAt k l)}) (fun x => ⟨[(0, dStrs l), (1, .int .i64 k), (7, dStrs l), (8, .int .i64 l.length), (9, .int .i64 x.1)], []⟩) (fun x => l.length - x.1) ⟨0, by simp [hR]⟩ (Sub.lit (by simp)) ?_
  clear hR
  rintro ⟨j, hj, hR⟩
  by_cases hlt : j < l.length
  · obtain ⟨x, hx, hx', hxm⟩ := at_lt' hlt
    have hz : l.zipIdx[j]? = some (x, j) := by simp [hx]
    rw [all_drop hz] at hR
    have e1 := check112_pure k hk x
    have e2 := contains104_pure (l.take j) x
    rw [show (dStrs (l.take j)) = DVal.sl 1 16 ((l.map dStr).take j) by rw [← List.map_take]] at e2
    simp only [dNode] at e1
    simp only [okAt] at hR
    cases hT : txtOK k x
    · rw [hT] at e1 hR
      simp only [Bool.false_and, Bool.false_eq_true, if_false] at e1 hR
      subst hR
      (repeat (first | (refine DW_seq fun K hK => ?_) | (refine DW_r anWR376 Try.mixed (by kernel_rfl) ?_; simp [hnt, Try.ntmps76, Try.results76, anWR376, dStr, hlt, hx', hx]; try simp (disch := omega) only [wrap64_in]) | (refine DW_block ?_) | (focus (refine DW_if ?_ ?_ ?_; (· (simp [hnt, Try.ntmps76, Try.results76, anWR376, dStr, hlt, hx', hx]; done)); (try (rotate_left; (· (intro hc; (try simp [hnt, Try.ntmps76, Try.results76, anWR376, dStr, hlt, hx', hx] at hc); done)))))) | (refine DW_ret ?_; simp [hnt, Try.ntmps76, Try.results76, anWR376, dStr, hlt, hx', hx]) | (refine DW_exit ?_; simp [hnt, Try.ntmps76, Try.results76, anWR376, dStr, hlt, hx', hx]) | (refine DW_skip ?_; simp [hnt, Try.ntmps76, Try.results76, anWR376, dStr, hlt, hx', hx]) | (intro hc; (try simp [hnt, Try.ntmps76, Try.results76, anWR376, dStr, hlt, hx', hx] at hc); done) | (intro hc; (try simp [hnt, Try.ntmps76, Try.results76, anWR376, dStr, hlt, hx', hx] at hc); (first | (exfalso; omega) | skip)) | (refine callP_mk (e1) ?_; try simp [hnt, Try.ntmps76, Try.results76, anWR376, dStr, hlt, hx', hx]) | (refine callP_wk (e1) ?_ ?_; (· (simp; done)); try simp [hnt, Try.ntmps76, Try.results76, anWR376, dStr, hlt, hx', hx]) | (refine callP_mk (e2) ?_; try simp [hnt, Try.ntmps76, Try.results76, anWR376, dStr, hlt, hx', hx]) | (refine callP_wk (e2) ?_ ?_; (· (simp; done)); try simp [hnt, Try.ntmps76, Try.results76, anWR376, dStr, hlt, hx', hx]) | (refine ⟨?_, ?_⟩; · omega) | omega | apply_assumption -exfalso -symm | (exfalso; omega)))
    · rw [hT] at e1 hR
      simp only [if_true, Bool.true_and] at e1 hR
      cases hP : decide (0 ≤ placeS (l.take j) x)
      · rw [hP] at e2 hR
        simp only [Bool.not_false, Bool.true_and] at hR
        (repeat (first | (refine DW_seq fun K hK => ?_) | (refine DW_r anWR376 Try.mixed (by kernel_rfl) ?_; simp [hnt, Try.ntmps76, Try.results76, anWR376, dStr, hlt, hx', hx]; try simp (disch := omega) only [wrap64_in]) | (refine DW_block ?_) | (focus (refine DW_if ?_ ?_ ?_; (· (simp [hnt, Try.ntmps76, Try.results76, anWR376, dStr, hlt, hx', hx]; done)); (try (rotate_left; (· (intro hc; (try simp [hnt, Try.ntmps76, Try.results76, anWR376, dStr, hlt, hx', hx] at hc); done)))))) | (refine DW_ret ?_; simp [hnt, Try.ntmps76, Try.results76, anWR376, dStr, hlt, hx', hx]) | (refine DW_exit ?_; simp [hnt, Try.ntmps76, Try.results76, anWR376, dStr, hlt, hx', hx]) | (refine DW_skip ?_; simp [hnt, Try.ntmps76, Try.results76, anWR376, dStr, hlt, hx', hx]) | (intro hc; (try simp [hnt, Try.ntmps76, Try.results76, anWR376, dStr, hlt, hx', hx] at hc); done) | (intro hc; (try simp [hnt, Try.ntmps76, Try.results76, anWR376, dStr, hlt, hx', hx] at hc); (first | (exfalso; omega) | skip)) | (refine callP_mk (e1) ?_; try simp [hnt, Try.ntmps76, Try.results76, anWR376, dStr, hlt, hx', hx]) | (refine callP_wk (e1) ?_ ?_; (· (simp; done)); try simp [hnt, Try.ntmps76, Try.results76, anWR376, dStr, hlt, hx', hx]) | (refine callP_mk (e2) ?_; try simp [hnt, Try.ntmps76, Try.results76, anWR376, dStr, hlt, hx', hx]) | (refine callP_wk (e2) ?_ ?_; (· (simp; done)); try simp [hnt, Try.ntmps76, Try.results76, anWR376, dStr, hlt, hx', hx]) | (refine ⟨?_, ?_⟩; · omega) | omega | apply_assumption -exfalso -symm | (exfalso; omega)))
        refine Again.mk ⟨j + 1, by omega, hR⟩ (Sub.lit (by simp)) (by simp; omega)
        (repeat (first | (refine DW_seq fun K hK => ?_) | (refine DW_r anWR376 Try.mixed (by kernel_rfl) ?_; simp [hnt, Try.ntmps76, Try.results76, anWR376]; try simp (disch := omega) only [wrap64_in]) | (refine DW_block ?_) | (focus (refine DW_if ?_ ?_ ?_; (· (simp [hnt, Try.ntmps76, Try.results76, anWR376]; done)); (try (rotate_left; (· (intro hc; (try simp [hnt, Try.ntmps76, Try.results76, anWR376] at hc); done)))))) | (refine DW_ret ?_; simp [hnt, Try.ntmps76, Try.results76, anWR376]) | (refine DW_exit ?_; simp [hnt, Try.ntmps76, Try.results76, anWR376]) | (refine DW_skip ?_; simp [hnt, Try.ntmps76, Try.results76, anWR376]) | (intro hc; (try simp [hnt, Try.ntmps76, Try.results76, anWR376] at hc); done) | (intro hc; (try simp [hnt, Try.ntmps76, Try.results76, anWR376] at hc); (first | (exfalso; omega) | skip)) | (refine callP_mk (e1) ?_; try simp [hnt, Try.ntmps76, Try.results76, anWR376]) | (refine callP_wk (e1) ?_ ?_; (· (simp; done)); try simp [hnt, Try.ntmps76, Try.results76, anWR376]) | (refine callP_mk (e2) ?_; try simp [hnt, Try.ntmps76, Try.results76, anWR376]) | (refine callP_wk (e2) ?_ ?_; (· (simp; done)); try simp [hnt, Try.ntmps76, Try.results76, anWR376]) | (refine ⟨?_, ?_⟩; · omega) | omega | apply_assumption -exfalso -symm | (exfalso; omega)))
      · rw [hP] at e2 hR
        simp only [Bool.not_true, Bool.false_and] at hR
        subst hR
        (repeat (first | (refine DW_seq fun K hK => ?_) | (refine DW_r anWR376 Try.mixed (by kernel_rfl) ?_; simp [hnt, Try.ntmps76, Try.results76, anWR376, dStr, hlt, hx', hx]; try simp (disch := omega) only [wrap64_in]) | (refine DW_block ?_) | (focus (refine DW_if ?_ ?_ ?_; (· (simp [hnt, Try.ntmps76, Try.results76, anWR376, dStr, hlt, hx', hx]; done)); (try (rotate_left; (· (intro hc; (try simp [hnt, Try.ntmps76, Try.results76, anWR376, dStr, hlt, hx', hx] at hc); done)))))) | (refine DW_ret ?_; simp [hnt, Try.ntmps76, Try.results76, anWR376, dStr, hlt, hx', hx]) | (refine DW_exit ?_; simp [hnt, Try.ntmps76, Try.results76, anWR376, dStr, hlt, hx', hx]) | (refine DW_skip ?_; simp [hnt, Try.ntmps76, Try.results76, anWR376, dStr, hlt, hx', hx]) | (intro hc; (try simp [hnt, Try.ntmps76, Try.results76, anWR376, dStr, hlt, hx', hx] at hc); done) | (intro hc; (try simp [hnt, Try.ntmps76, Try.results76, anWR376, dStr, hlt, hx', hx] at hc); (first | (exfalso; omega) | skip)) | (refine callP_mk (e1) ?_; try simp [hnt, Try.ntmps76, Try.results76, anWR376, dStr, hlt, hx', hx]) | (refine callP_wk (e1) ?_ ?_; (· (simp; done)); try simp [hnt, Try.ntmps76, Try.results76, anWR376, dStr, hlt, hx', hx]) | (refine callP_mk (e2) ?_; try simp [hnt, Try.ntmps76, Try.results76, anWR376, dStr, hlt, hx', hx]) | (refine callP_wk (e2) ?_ ?_; (· (simp; done)); try simp [hnt, Try.ntmps76, Try.results76, anWR376, dStr, hlt, hx', hx]) | (refine ⟨?_, ?_⟩; · omega) | omega | apply_assumption -exfalso -symm | (exfalso; omega)))
  · have hkk : j = l.length := by omega
    subst hkk
    rw [← List.length_zipIdx, List.drop_length] at hR
    simp only [List.all_nil] at hR
    subst hR
    (repeat (first | (refine DW_seq fun K hK => ?_) | (refine DW_r anWR376 Try.mixed (by kernel_rfl) ?_; simp [hnt, Try.ntmps76, Try.results76, anWR376]; try simp (disch := omega) only [wrap64_in]) | (refine DW_block ?_) | (focus (refine DW_if ?_ ?_ ?_; (· (simp [hnt, Try.ntmps76, Try.results76, anWR376]; done)); (try (rotate_left; (· (intro hc; (try simp [hnt, Try.ntmps76, Try.results76, anWR376] at hc); done)))))) | (refine DW_ret ?_; simp [hnt, Try.ntmps76, Try.results76, anWR376]) | (refine DW_exit ?_; simp [hnt, Try.ntmps76, Try.results76, anWR376]) | (refine DW_skip ?_; simp [hnt, Try.ntmps76, Try.results76, anWR376]) | (intro hc; (try simp [hnt, Try.ntmps76, Try.results76, anWR376] at hc); done) | (intro hc; (try simp [hnt, Try.ntmps76, Try.results76, anWR376] at hc); (first | (exfalso; omega) | skip)) | (refine ⟨?_, ?_⟩; · omega) | omega | apply_assumption -exfalso -symm | (exfalso; omega)))
def anWR379 : Ann := ⟨[], []⟩
theorem unlike79_pure (l : List ByteArray) (k c : Int) (hk : k = 2 ∧ c = 85 ∨ k = 3 ∧ c = 76) : DPure Try.prog 79 [dStrs l, .int .u8 c] (.bool (unlikeB k l)) := by
  refine DPure_introF [] (fn := Try.f79) Try.func79 rfl Try.call79 (by simp [Try.ntmps79]) (by simp [mx]) ?_
  intro hwf B hnt
  have hlen := len_strs hwf.1
  clear hwf
  simp only [argS]
  obtain ⟨R, hR⟩ : ∃ R, R = unlikeB k l := ⟨_, rfl⟩
  rw [← hR]
  unfold unlikeB at hR
  (repeat (first | (refine DW_seq fun K hK => ?_) | (refine DW_r anWR379 Try.mixed (by kernel_rfl) ?_; simp [hnt, Try.ntmps79, Try.results79, anWR379]; try simp (disch := omega) only [wrap64_in]) | (refine DW_block ?_) | (focus (refine DW_if ?_ ?_ ?_; (· (simp [hnt, Try.ntmps79, Try.results79, anWR379]; done)); (try (rotate_left; (· (intro hc; (try simp [hnt, Try.ntmps79, Try.results79, anWR379] at hc); done)))))) | (refine DW_ret ?_; simp [hnt, Try.ntmps79, Try.results79, anWR379]) | (refine DW_exit ?_; simp [hnt, Try.ntmps79, Try.results79, anWR379]) | (refine DW_skip ?_; simp [hnt, Try.ntmps79, Try.results79, anWR379]) | (intro hc; (try simp [hnt, Try.ntmps79, Try.results79, anWR379] at hc); done) | (intro hc; (try simp [hnt, Try.ntmps79, Try.results79, anWR379] at hc); (first | (exfalso; omega) | skip)) | (refine ⟨?_, ?_⟩; · omega) | omega | apply_assumption -exfalso -symm | (exfalso; omega)))
  refine DW_loop (X := {j : Nat // j ≤ l.length ∧ R = (l.zipIdx.drop j).all (okAt k l)}) (fun x => ⟨[(0, dStrs l), (1, .int .u8 c), (5, .int .i64 x.1)], []⟩) (fun x => l.length - x.1) ⟨0, by simp [hR]⟩ (Sub.lit (by simp)) ?_
  clear hR
  rintro ⟨j, hj, hR⟩
  by_cases hlt : j < l.length
  · obtain ⟨x, hx, hx', hxm⟩ := at_lt' hlt
    have hz : l.zipIdx[j]? = some (x, j) := by simp [hx]
    rw [all_drop hz] at hR
    have e1 := rname113_pure k c hk x
    have e2 := place114_pure l x
    simp only [okAt] at hR
    have hp := place_here hx
    cases hT : txtOK k x
    · rw [hT] at e1 hR
      simp only [Bool.false_and] at hR
      subst hR
      (repeat (first | (refine DW_seq fun K hK => ?_) | (refine DW_r anWR379 Try.mixed (by kernel_rfl) ?_; simp [hnt, Try.ntmps79, Try.results79, anWR379, dStr, hlt, hx', hx]; try simp (disch := omega) only [wrap64_in]) | (refine DW_block ?_) | (focus (refine DW_if ?_ ?_ ?_; (· (simp [hnt, Try.ntmps79, Try.results79, anWR379, dStr, hlt, hx', hx]; done)); (try (rotate_left; (· (intro hc; (try simp [hnt, Try.ntmps79, Try.results79, anWR379, dStr, hlt, hx', hx] at hc); done)))))) | (refine DW_ret ?_; simp [hnt, Try.ntmps79, Try.results79, anWR379, dStr, hlt, hx', hx]) | (refine DW_exit ?_; simp [hnt, Try.ntmps79, Try.results79, anWR379, dStr, hlt, hx', hx]) | (refine DW_skip ?_; simp [hnt, Try.ntmps79, Try.results79, anWR379, dStr, hlt, hx', hx]) | (intro hc; (try simp [hnt, Try.ntmps79, Try.results79, anWR379, dStr, hlt, hx', hx] at hc); done) | (intro hc; (try simp [hnt, Try.ntmps79, Try.results79, anWR379, dStr, hlt, hx', hx] at hc); (first | (exfalso; omega) | skip)) | (refine callP_mk (e1) ?_; try simp [hnt, Try.ntmps79, Try.results79, anWR379, dStr, hlt, hx', hx]) | (refine callP_wk (e1) ?_ ?_; (· (simp; done)); try simp [hnt, Try.ntmps79, Try.results79, anWR379, dStr, hlt, hx', hx]) | (refine callP_mk (e2) ?_; try simp [hnt, Try.ntmps79, Try.results79, anWR379, dStr, hlt, hx', hx]) | (refine callP_wk (e2) ?_ ?_; (· (simp; done)); try simp [hnt, Try.ntmps79, Try.results79, anWR379, dStr, hlt, hx', hx]) | (refine ⟨?_, ?_⟩; · omega) | omega | apply_assumption -exfalso -symm | (exfalso; omega)))
    · rw [hT] at e1 hR
      simp only [Bool.true_and] at hR
      by_cases hP : placeS l x = j
      · have h3 := hp.1 hP
        simp only [h3, decide_false, Bool.not_false, Bool.true_and] at hR
        (repeat (first | (refine DW_seq fun K hK => ?_) | (refine DW_r anWR379 Try.mixed (by kernel_rfl) ?_; simp [hnt, Try.ntmps79, Try.results79, anWR379, dStr, hlt, hx', hx, hP]; try simp (disch := omega) only [wrap64_in]) | (refine DW_block ?_) | (focus (refine DW_if ?_ ?_ ?_; (· (simp [hnt, Try.ntmps79, Try.results79, anWR379, dStr, hlt, hx', hx, hP]; done)); (try (rotate_left; (· (intro hc; (try simp [hnt, Try.ntmps79, Try.results79, anWR379, dStr, hlt, hx', hx, hP] at hc); done)))))) | (refine DW_ret ?_; simp [hnt, Try.ntmps79, Try.results79, anWR379, dStr, hlt, hx', hx, hP]) | (refine DW_exit ?_; simp [hnt, Try.ntmps79, Try.results79, anWR379, dStr, hlt, hx', hx, hP]) | (refine DW_skip ?_; simp [hnt, Try.ntmps79, Try.results79, anWR379, dStr, hlt, hx', hx, hP]) | (intro hc; (try simp [hnt, Try.ntmps79, Try.results79, anWR379, dStr, hlt, hx', hx, hP] at hc); done) | (intro hc; (try simp [hnt, Try.ntmps79, Try.results79, anWR379, dStr, hlt, hx', hx, hP] at hc); (first | (exfalso; omega) | skip)) | (refine callP_mk (e1) ?_; try simp [hnt, Try.ntmps79, Try.results79, anWR379, dStr, hlt, hx', hx, hP]) | (refine callP_wk (e1) ?_ ?_; (· (simp; done)); try simp [hnt, Try.ntmps79, Try.results79, anWR379, dStr, hlt, hx', hx, hP]) | (refine callP_mk (e2) ?_; try simp [hnt, Try.ntmps79, Try.results79, anWR379, dStr, hlt, hx', hx, hP]) | (refine callP_wk (e2) ?_ ?_; (· (simp; done)); try simp [hnt, Try.ntmps79, Try.results79, anWR379, dStr, hlt, hx', hx, hP]) | (refine ⟨?_, ?_⟩; · omega) | omega | apply_assumption -exfalso -symm | (exfalso; omega)))
        refine Again.mk ⟨j + 1, by omega, hR⟩ (Sub.lit (by simp)) (by simp; omega)
        (repeat (first | (refine DW_seq fun K hK => ?_) | (refine DW_r anWR379 Try.mixed (by kernel_rfl) ?_; simp [hnt, Try.ntmps79, Try.results79, anWR379]; try simp (disch := omega) only [wrap64_in]) | (refine DW_block ?_) | (focus (refine DW_if ?_ ?_ ?_; (· (simp [hnt, Try.ntmps79, Try.results79, anWR379]; done)); (try (rotate_left; (· (intro hc; (try simp [hnt, Try.ntmps79, Try.results79, anWR379] at hc); done)))))) | (refine DW_ret ?_; simp [hnt, Try.ntmps79, Try.results79, anWR379]) | (refine DW_exit ?_; simp [hnt, Try.ntmps79, Try.results79, anWR379]) | (refine DW_skip ?_; simp [hnt, Try.ntmps79, Try.results79, anWR379]) | (intro hc; (try simp [hnt, Try.ntmps79, Try.results79, anWR379] at hc); done) | (intro hc; (try simp [hnt, Try.ntmps79, Try.results79, anWR379] at hc); (first | (exfalso; omega) | skip)) | (refine callP_mk (e1) ?_; try simp [hnt, Try.ntmps79, Try.results79, anWR379]) | (refine callP_wk (e1) ?_ ?_; (· (simp; done)); try simp [hnt, Try.ntmps79, Try.results79, anWR379]) | (refine callP_mk (e2) ?_; try simp [hnt, Try.ntmps79, Try.results79, anWR379]) | (refine callP_wk (e2) ?_ ?_; (· (simp; done)); try simp [hnt, Try.ntmps79, Try.results79, anWR379]) | (refine ⟨?_, ?_⟩; · omega) | omega | apply_assumption -exfalso -symm | (exfalso; omega)))
      · have h3 : 0 ≤ placeS (l.take j) x := Classical.not_not.1 (fun h => hP (hp.2 h))
        simp only [h3, decide_true, Bool.not_true, Bool.false_and] at hR
        subst hR
        have hP' : ¬ ((j : Int) = placeS l x) := fun h => hP h.symm
        (repeat (first | (refine DW_seq fun K hK => ?_) | (refine DW_r anWR379 Try.mixed (by kernel_rfl) ?_; simp [hnt, Try.ntmps79, Try.results79, anWR379, dStr, hlt, hx', hx, hP, hP']; try simp (disch := omega) only [wrap64_in]) | (refine DW_block ?_) | (focus (refine DW_if ?_ ?_ ?_; (· (simp [hnt, Try.ntmps79, Try.results79, anWR379, dStr, hlt, hx', hx, hP, hP']; done)); (try (rotate_left; (· (intro hc; (try simp [hnt, Try.ntmps79, Try.results79, anWR379, dStr, hlt, hx', hx, hP, hP'] at hc); done)))))) | (refine DW_ret ?_; simp [hnt, Try.ntmps79, Try.results79, anWR379, dStr, hlt, hx', hx, hP, hP']) | (refine DW_exit ?_; simp [hnt, Try.ntmps79, Try.results79, anWR379, dStr, hlt, hx', hx, hP, hP']) | (refine DW_skip ?_; simp [hnt, Try.ntmps79, Try.results79, anWR379, dStr, hlt, hx', hx, hP, hP']) | (intro hc; (try simp [hnt, Try.ntmps79, Try.results79, anWR379, dStr, hlt, hx', hx, hP, hP'] at hc); done) | (intro hc; (try simp [hnt, Try.ntmps79, Try.results79, anWR379, dStr, hlt, hx', hx, hP, hP'] at hc); (first | (exfalso; omega) | skip)) | (refine callP_mk (e1) ?_; try simp [hnt, Try.ntmps79, Try.results79, anWR379, dStr, hlt, hx', hx, hP, hP']) | (refine callP_wk (e1) ?_ ?_; (· (simp; done)); try simp [hnt, Try.ntmps79, Try.results79, anWR379, dStr, hlt, hx', hx, hP, hP']) | (refine callP_mk (e2) ?_; try simp [hnt, Try.ntmps79, Try.results79, anWR379, dStr, hlt, hx', hx, hP, hP']) | (refine callP_wk (e2) ?_ ?_; (· (simp; done)); try simp [hnt, Try.ntmps79, Try.results79, anWR379, dStr, hlt, hx', hx, hP, hP']) | (refine ⟨?_, ?_⟩; · omega) | omega | apply_assumption -exfalso -symm | (exfalso; omega)))
  · have hkk : j = l.length := by omega
    subst hkk
    rw [← List.length_zipIdx, List.drop_length] at hR
    simp only [List.all_nil] at hR
    subst hR
    (repeat (first | (refine DW_seq fun K hK => ?_) | (refine DW_r anWR379 Try.mixed (by kernel_rfl) ?_; simp [hnt, Try.ntmps79, Try.results79, anWR379]; try simp (disch := omega) only [wrap64_in]) | (refine DW_block ?_) | (focus (refine DW_if ?_ ?_ ?_; (· (simp [hnt, Try.ntmps79, Try.results79, anWR379]; done)); (try (rotate_left; (· (intro hc; (try simp [hnt, Try.ntmps79, Try.results79, anWR379] at hc); done)))))) | (refine DW_ret ?_; simp [hnt, Try.ntmps79, Try.results79, anWR379]) | (refine DW_exit ?_; simp [hnt, Try.ntmps79, Try.results79, anWR379]) | (refine DW_skip ?_; simp [hnt, Try.ntmps79, Try.results79, anWR379]) | (intro hc; (try simp [hnt, Try.ntmps79, Try.results79, anWR379] at hc); done) | (intro hc; (try simp [hnt, Try.ntmps79, Try.results79, anWR379] at hc); (first | (exfalso; omega) | skip)) | (refine ⟨?_, ?_⟩; · omega) | omega | apply_assumption -exfalso -symm | (exfalso; omega)))
end Go.Proofs.Ytihkcegelghcpaa
end

section
/- A part of a proof: walks over the functions that it names; their contracts hold for every argument. -/

set_option linter.unusedSimpArgs false
set_option linter.unusedVariables false
namespace Go.Proofs.Ytihkcegelghcpaa
open Go Go.Dm
attribute [local irreducible] DW callP callS
set_option maxRecDepth 100000

def anW9494 : Ann := ⟨[], []⟩
/-- IndexFunc at Sym: the first one that the closure says yes to -/
theorem indexFunc94_pure (g : FuncId) (us cs : List DVal) (l : List Sym) (q : Sym → Bool) (hq : ∀ x ∈ l, DPure Try.prog g (us ++ [.agg (dSym x)] ++ cs) (.bool (q x))) :
    DPure Try.prog 94 [dSyms l, .fn (.func g) us cs] (.int .i64 (if l.any q then ((l.findIdx q : Nat) : Int) else -1)) := by
  refine DPure_introF [] (fn := Try.f94) Try.func94 rfl Try.call94 (by simp [Try.ntmps94]) (by simp [mx]) ?_
  intro hwf B hnt
  have hw : wSyms l := w_syms hwf.1
  obtain ⟨hw1, hw2, hw3⟩ := hw
  clear hwf hw3
  simp only [argS]
  (repeat (first | (refine DW_seq fun K hK => ?_) | (refine DW_r anW9494 Try.mixed (by kernel_rfl) ?_; simp [hnt, Try.ntmps94, Try.results94, anW9494]; try simp (disch := omega) only [wrap64_in]) | (refine DW_block ?_) | (focus (refine DW_if ?_ ?_ ?_; (· (simp [hnt, Try.ntmps94, Try.results94, anW9494]; done)); (try (rotate_left; (· (intro hc; (try simp [hnt, Try.ntmps94, Try.results94, anW9494] at hc); done)))))) | (refine DW_ret ?_; simp [hnt, Try.ntmps94, Try.results94, anW9494]) | (refine DW_exit ?_; simp [hnt, Try.ntmps94, Try.results94, anW9494]) | (refine DW_skip ?_; simp [hnt, Try.ntmps94, Try.results94, anW9494]) | (intro hc; (try simp [hnt, Try.ntmps94, Try.results94, anW9494] at hc); done) | (intro hc; (try simp [hnt, Try.ntmps94, Try.results94, anW9494] at hc); (first | (exfalso; omega) | skip)) | (refine ⟨?_, ?_⟩; · omega) | omega | apply_assumption -exfalso -symm | (exfalso; omega)))
  refine DW_loop (X := {k : Nat // k ≤ l.length ∧ ∀ i x, i < k → l[i]? = some x → q x = false}) (fun x => ⟨[(0, dSyms l), (1, .fn (.func g) us cs), (7, .int .i64 l.length), (8, .int .i64 x.1)], []⟩) (fun x => l.length - x.1) ⟨0, by simp⟩ (Sub.lit (by simp)) ?_
  rintro ⟨k, hk, hno⟩
  by_cases hlt : k < l.length
  · obtain ⟨x, hx, hx', hxm⟩ := at_lt' hlt
    have hqx := hq x hxm
    simp only [dSym, List.append_assoc, List.cons_append, List.nil_append] at hqx
    cases hb : q x
    · rw [hb] at hqx
      have hno' : ∀ i y, i < k + 1 → l[i]? = some y → q y = false := by
        intro i y hi hy
        by_cases hik : i = k
        · subst hik; rw [hx] at hy; simp only [Option.some.injEq] at hy; subst hy; exact hb
        · exact hno i y (by omega) hy
      (repeat (first | (refine DW_seq fun K hK => ?_) | (refine DW_r anW9494 Try.mixed (by kernel_rfl) ?_; simp [hnt, Try.ntmps94, Try.results94, anW9494, dSym, hlt, hx']; try simp (disch := omega) only [wrap64_in]) | (refine DW_block ?_) | (focus (refine DW_if ?_ ?_ ?_; (· (simp [hnt, Try.ntmps94, Try.results94, anW9494, dSym, hlt, hx']; done)); (try (rotate_left; (· (intro hc; (try simp [hnt, Try.ntmps94, Try.results94, anW9494, dSym, hlt, hx'] at hc); done)))))) | (refine DW_ret ?_; simp [hnt, Try.ntmps94, Try.results94, anW9494, dSym, hlt, hx']) | (refine DW_exit ?_; simp [hnt, Try.ntmps94, Try.results94, anW9494, dSym, hlt, hx']) | (refine DW_skip ?_; simp [hnt, Try.ntmps94, Try.results94, anW9494, dSym, hlt, hx']) | (intro hc; (try simp [hnt, Try.ntmps94, Try.results94, anW9494, dSym, hlt, hx'] at hc); done) | (intro hc; (try simp [hnt, Try.ntmps94, Try.results94, anW9494, dSym, hlt, hx'] at hc); (first | (exfalso; omega) | skip)) | (refine callP_mk (hqx) ?_; try simp [hnt, Try.ntmps94, Try.results94, anW9494, dSym, hlt, hx']) | (refine callP_wk (hqx) ?_ ?_; (· (simp; done)); try simp [hnt, Try.ntmps94, Try.results94, anW9494, dSym, hlt, hx']) | (refine ⟨?_, ?_⟩; · omega) | omega | apply_assumption -exfalso -symm | (exfalso; omega)))
      exact Again.mk ⟨k + 1, by omega, hno'⟩ (Sub.lit (by simp [])) (by simp; omega)
      (repeat (first | (refine DW_seq fun K hK => ?_) | (refine DW_r anW9494 Try.mixed (by kernel_rfl) ?_; simp [hnt, Try.ntmps94, Try.results94, anW9494, dSym, hlt, hx']; try simp (disch := omega) only [wrap64_in]) | (refine DW_block ?_) | (focus (refine DW_if ?_ ?_ ?_; (· (simp [hnt, Try.ntmps94, Try.results94, anW9494, dSym, hlt, hx']; done)); (try (rotate_left; (· (intro hc; (try simp [hnt, Try.ntmps94, Try.results94, anW9494, dSym, hlt, hx'] at hc); done)))))) | (refine DW_ret ?_; simp [hnt, Try.ntmps94, Try.results94, anW9494, dSym, hlt, hx']) | (refine DW_exit ?_; simp [hnt, Try.ntmps94, Try.results94, anW9494, dSym, hlt, hx']) | (refine DW_skip ?_; simp [hnt, Try.ntmps94, Try.results94, anW9494, dSym, hlt, hx']) | (intro hc; (try simp [hnt, Try.ntmps94, Try.results94, anW9494, dSym, hlt, hx'] at hc); done) | (intro hc; (try simp [hnt, Try.ntmps94, Try.results94, anW9494, dSym, hlt, hx'] at hc); (first | (exfalso; omega) | skip)) | (refine callP_mk (hqx) ?_; try simp [hnt, Try.ntmps94, Try.results94, anW9494, dSym, hlt, hx']) | (refine callP_wk (hqx) ?_ ?_; (· (simp; done)); try simp [hnt, Try.ntmps94, Try.results94, anW9494, dSym, hlt, hx']) | (refine ⟨?_, ?_⟩; · omega) | omega | apply_assumption -exfalso -symm | (exfalso; omega)))
    · rw [hb] at hqx
      have hany : l.any q = true := List.any_eq_true.2 ⟨x, hxm, hb⟩
      have hidx : l.findIdx q = k := by
        rw [List.findIdx_eq hlt]
        refine ⟨by rw [hx']; exact hb, fun i hi => ?_⟩
        exact hno i _ hi (List.getElem?_eq_getElem (by omega))
      (repeat (first | (refine DW_seq fun K hK => ?_) | (refine DW_r anW9494 Try.mixed (by kernel_rfl) ?_; simp [hnt, Try.ntmps94, Try.results94, anW9494, dSym, hlt, hx', hany, hidx]; try simp (disch := omega) only [wrap64_in]) | (refine DW_block ?_) | (focus (refine DW_if ?_ ?_ ?_; (· (simp [hnt, Try.ntmps94, Try.results94, anW9494, dSym, hlt, hx', hany, hidx]; done)); (try (rotate_left; (· (intro hc; (try simp [hnt, Try.ntmps94, Try.results94, anW9494, dSym, hlt, hx', hany, hidx] at hc); done)))))) | (refine DW_ret ?_; simp [hnt, Try.ntmps94, Try.results94, anW9494, dSym, hlt, hx', hany, hidx]) | (refine DW_exit ?_; simp [hnt, Try.ntmps94, Try.results94, anW9494, dSym, hlt, hx', hany, hidx]) | (refine DW_skip ?_; simp [hnt, Try.ntmps94, Try.results94, anW9494, dSym, hlt, hx', hany, hidx]) | (intro hc; (try simp [hnt, Try.ntmps94, Try.results94, anW9494, dSym, hlt, hx', hany, hidx] at hc); done) | (intro hc; (try simp [hnt, Try.ntmps94, Try.results94, anW9494, dSym, hlt, hx', hany, hidx] at hc); (first | (exfalso; omega) | skip)) | (refine callP_mk (hqx) ?_; try simp [hnt, Try.ntmps94, Try.results94, anW9494, dSym, hlt, hx', hany, hidx]) | (refine callP_wk (hqx) ?_ ?_; (· (simp; done)); try simp [hnt, Try.ntmps94, Try.results94, anW9494, dSym, hlt, hx', hany, hidx]) | (refine ⟨?_, ?_⟩; · omega) | omega | apply_assumption -exfalso -symm | (exfalso; omega)))
  · have hkk : k = l.length := by omega
    have hany : l.any q = false := by
      rw [List.any_eq_false]
      intro x hx
      obtain ⟨i, hi, rfl⟩ := List.getElem_of_mem hx
      rw [hno i _ (by omega) (List.getElem?_eq_getElem hi)]
      simp
    (repeat (first | (refine DW_seq fun K hK => ?_) | (refine DW_r anW9494 Try.mixed (by kernel_rfl) ?_; simp [hnt, Try.ntmps94, Try.results94, anW9494, dSym, hkk, hany]; try simp (disch := omega) only [wrap64_in]) | (refine DW_block ?_) | (focus (refine DW_if ?_ ?_ ?_; (· (simp [hnt, Try.ntmps94, Try.results94, anW9494, dSym, hkk, hany]; done)); (try (rotate_left; (· (intro hc; (try simp [hnt, Try.ntmps94, Try.results94, anW9494, dSym, hkk, hany] at hc); done)))))) | (refine DW_ret ?_; simp [hnt, Try.ntmps94, Try.results94, anW9494, dSym, hkk, hany]) | (refine DW_exit ?_; simp [hnt, Try.ntmps94, Try.results94, anW9494, dSym, hkk, hany]) | (refine DW_skip ?_; simp [hnt, Try.ntmps94, Try.results94, anW9494, dSym, hkk, hany]) | (intro hc; (try simp [hnt, Try.ntmps94, Try.results94, anW9494, dSym, hkk, hany] at hc); done) | (intro hc; (try simp [hnt, Try.ntmps94, Try.results94, anW9494, dSym, hkk, hany] at hc); (first | (exfalso; omega) | skip)) | (refine callP_mk (hqx) ?_; try simp [hnt, Try.ntmps94, Try.results94, anW9494, dSym, hkk, hany]) | (refine callP_wk (hqx) ?_ ?_; (· (simp; done)); try simp [hnt, Try.ntmps94, Try.results94, anW9494, dSym, hkk, hany]) | (refine ⟨?_, ?_⟩; · omega) | omega | apply_assumption -exfalso -symm | (exfalso; omega)))

def anW9454 : Ann := ⟨[], []⟩
theorem containsFunc54_pure (g : FuncId) (us cs : List DVal) (l : List Sym) (q : Sym → Bool) (hq : ∀ x ∈ l, DPure Try.prog g (us ++ [.agg (dSym x)] ++ cs) (.bool (q x))) :
    DPure Try.prog 54 [dSyms l, .fn (.func g) us cs] (.bool (l.any q)) := by
  refine DPure_introF [] (fn := Try.f54) Try.func54 rfl Try.call54 (by simp [Try.ntmps54]) (by simp [mx]) ?_
  intro hwf B hnt
  simp only [argS]
  have hi := indexFunc94_pure g us cs l q hq
  have hge : (0 : Int) ≤ (l.findIdx q : Nat) := by omega
  cases hb : l.any q
  · rw [hb] at hi
    (repeat (first | (refine DW_seq fun K hK => ?_) | (refine DW_r anW9454 Try.mixed (by kernel_rfl) ?_; simp [hnt, Try.ntmps54, Try.results54, anW9454, hb]; try simp (disch := omega) only [wrap64_in]) | (refine DW_block ?_) | (focus (refine DW_if ?_ ?_ ?_; (· (simp [hnt, Try.ntmps54, Try.results54, anW9454, hb]; done)); (try (rotate_left; (· (intro hc; (try simp [hnt, Try.ntmps54, Try.results54, anW9454, hb] at hc); done)))))) | (refine DW_ret ?_; simp [hnt, Try.ntmps54, Try.results54, anW9454, hb]) | (refine DW_exit ?_; simp [hnt, Try.ntmps54, Try.results54, anW9454, hb]) | (refine DW_skip ?_; simp [hnt, Try.ntmps54, Try.results54, anW9454, hb]) | (intro hc; (try simp [hnt, Try.ntmps54, Try.results54, anW9454, hb] at hc); done) | (intro hc; (try simp [hnt, Try.ntmps54, Try.results54, anW9454, hb] at hc); (first | (exfalso; omega) | skip)) | (refine callP_mk (hi) ?_; try simp [hnt, Try.ntmps54, Try.results54, anW9454, hb]) | (refine callP_wk (hi) ?_ ?_; (· (simp; done)); try simp [hnt, Try.ntmps54, Try.results54, anW9454, hb]) | (refine ⟨?_, ?_⟩; · omega) | omega | apply_assumption -exfalso -symm | (exfalso; omega)))
  · rw [hb] at hi
    (repeat (first | (refine DW_seq fun K hK => ?_) | (refine DW_r anW9454 Try.mixed (by kernel_rfl) ?_; simp [hnt, Try.ntmps54, Try.results54, anW9454, hb]; try simp (disch := omega) only [wrap64_in]) | (refine DW_block ?_) | (focus (refine DW_if ?_ ?_ ?_; (· (simp [hnt, Try.ntmps54, Try.results54, anW9454, hb]; done)); (try (rotate_left; (· (intro hc; (try simp [hnt, Try.ntmps54, Try.results54, anW9454, hb] at hc); done)))))) | (refine DW_ret ?_; simp [hnt, Try.ntmps54, Try.results54, anW9454, hb]) | (refine DW_exit ?_; simp [hnt, Try.ntmps54, Try.results54, anW9454, hb]) | (refine DW_skip ?_; simp [hnt, Try.ntmps54, Try.results54, anW9454, hb]) | (intro hc; (try simp [hnt, Try.ntmps54, Try.results54, anW9454, hb] at hc); done) | (intro hc; (try simp [hnt, Try.ntmps54, Try.results54, anW9454, hb] at hc); (first | (exfalso; omega) | skip)) | (refine callP_mk (hi) ?_; try simp [hnt, Try.ntmps54, Try.results54, anW9454, hb]) | (refine callP_wk (hi) ?_ ?_; (· (simp; done)); try simp [hnt, Try.ntmps54, Try.results54, anW9454, hb]) | (refine ⟨?_, ?_⟩; · omega) | omega | apply_assumption -exfalso -symm | (exfalso; omega)))
end Go.Proofs.Ytihkcegelghcpaa
end

section
/- A part of a proof: walks over the functions that it names; their contracts hold for every argument. -/

set_option linter.unusedSimpArgs false
set_option linter.unusedVariables false
namespace Go.Proofs.Ytihkcegelghcpaa
open Go Go.Dm
attribute [local irreducible] DW callP callS
set_option maxRecDepth 100000

def ntOK (c : Cnf) (n : Int) : Bool := decide (0 ≤ n) && decide (n < c.nts)
def symBad (c : Cnf) (s : Sym) : Bool := s.label && (decide (s.n < 0) || decide (16 ≤ s.n)) || !s.label && !ntOK c s.n
def prodOK (c : Cnf) (p : Prod) : Bool := ntOK c p.head && !p.body.any (symBad c)
def cnfOK (c : Cnf) : Bool := decide (1 ≤ c.nts) && decide (c.nts ≤ 1024) && c.prods.all (prodOK c)

def anW2553 : Ann := ⟨[], []⟩
theorem check1_pure (c : Cnf) (n : Int) : DPure Try.prog 53 [.int .i64 n, .ref [.int .i64 c.nts, dProds c.prods]] (.bool (ntOK c n)) := by
  refine DPure_introF [] (fn := Try.f53) Try.func53 rfl Try.call53 (by simp [Try.ntmps53]) (by simp [mx]) ?_
  intro hwf B hnt
  simp only [argS]
  by_cases h1 : 0 ≤ n <;> by_cases h2 : n < c.nts <;> (repeat (first | (refine DW_seq fun K hK => ?_) | (refine DW_r anW2553 Try.mixed (by kernel_rfl) ?_; simp [hnt, Try.ntmps53, Try.results53, anW2553, h1, h2, ntOK]; try simp (disch := omega) only [wrap64_in]) | (refine DW_block ?_) | (focus (refine DW_if ?_ ?_ ?_; (· (simp [hnt, Try.ntmps53, Try.results53, anW2553, h1, h2, ntOK]; done)); (try (rotate_left; (· (intro hc; (try simp [hnt, Try.ntmps53, Try.results53, anW2553, h1, h2, ntOK] at hc); done)))))) | (refine DW_ret ?_; simp [hnt, Try.ntmps53, Try.results53, anW2553, h1, h2, ntOK]) | (refine DW_exit ?_; simp [hnt, Try.ntmps53, Try.results53, anW2553, h1, h2, ntOK]) | (refine DW_skip ?_; simp [hnt, Try.ntmps53, Try.results53, anW2553, h1, h2, ntOK]) | (intro hc; (try simp [hnt, Try.ntmps53, Try.results53, anW2553, h1, h2, ntOK] at hc); done) | (intro hc; (try simp [hnt, Try.ntmps53, Try.results53, anW2553, h1, h2, ntOK] at hc); (first | (exfalso; omega) | skip)) | (refine ⟨?_, ?_⟩; · omega) | omega | apply_assumption -exfalso -symm | (exfalso; omega)))

abbrev dNt (c : Cnf) : DVal := .fn (.func 53) [] [.ref [.int .i64 c.nts, dProds c.prods]]

def anW2555 : Ann := ⟨[], []⟩
theorem check2_pure (c : Cnf) (s : Sym) : DPure Try.prog 55 [.agg [.bool s.label, .int .i64 s.n], .ref [dNt c]] (.bool (symBad c s)) := by
  refine DPure_introF [] (fn := Try.f55) Try.func55 rfl Try.call55 (by simp [Try.ntmps55]) (by simp [mx]) ?_
  intro hwf B hnt
  simp only [argS]
  cases hl : s.label
  · cases hb : ntOK c s.n <;> (repeat (first | (refine DW_seq fun K hK => ?_) | (refine DW_r anW2555 Try.mixed (by kernel_rfl) ?_; simp [hnt, Try.ntmps55, Try.results55, anW2555, hl, hb, symBad]; try simp (disch := omega) only [wrap64_in]) | (refine DW_block ?_) | (focus (refine DW_if ?_ ?_ ?_; (· (simp [hnt, Try.ntmps55, Try.results55, anW2555, hl, hb, symBad]; done)); (try (rotate_left; (· (intro hc; (try simp [hnt, Try.ntmps55, Try.results55, anW2555, hl, hb, symBad] at hc); done)))))) | (refine DW_ret ?_; simp [hnt, Try.ntmps55, Try.results55, anW2555, hl, hb, symBad]) | (refine DW_exit ?_; simp [hnt, Try.ntmps55, Try.results55, anW2555, hl, hb, symBad]) | (refine DW_skip ?_; simp [hnt, Try.ntmps55, Try.results55, anW2555, hl, hb, symBad]) | (intro hc; (try simp [hnt, Try.ntmps55, Try.results55, anW2555, hl, hb, symBad] at hc); done) | (intro hc; (try simp [hnt, Try.ntmps55, Try.results55, anW2555, hl, hb, symBad] at hc); (first | (exfalso; omega) | skip)) | (refine callP_mk (check1_pure c s.n) ?_; try simp [hnt, Try.ntmps55, Try.results55, anW2555, hl, hb, symBad]) | (refine callP_wk (check1_pure c s.n) ?_ ?_; (· (simp; done)); try simp [hnt, Try.ntmps55, Try.results55, anW2555, hl, hb, symBad]) | (refine ⟨?_, ?_⟩; · omega) | omega | apply_assumption -exfalso -symm | (exfalso; omega)))
  · by_cases h1 : s.n < 0 <;> by_cases h2 : 16 ≤ s.n <;> (repeat (first | (refine DW_seq fun K hK => ?_) | (refine DW_r anW2555 Try.mixed (by kernel_rfl) ?_; simp [hnt, Try.ntmps55, Try.results55, anW2555, hl, h1, h2, symBad]; try simp (disch := omega) only [wrap64_in]) | (refine DW_block ?_) | (focus (refine DW_if ?_ ?_ ?_; (· (simp [hnt, Try.ntmps55, Try.results55, anW2555, hl, h1, h2, symBad]; done)); (try (rotate_left; (· (intro hc; (try simp [hnt, Try.ntmps55, Try.results55, anW2555, hl, h1, h2, symBad] at hc); done)))))) | (refine DW_ret ?_; simp [hnt, Try.ntmps55, Try.results55, anW2555, hl, h1, h2, symBad]) | (refine DW_exit ?_; simp [hnt, Try.ntmps55, Try.results55, anW2555, hl, h1, h2, symBad]) | (refine DW_skip ?_; simp [hnt, Try.ntmps55, Try.results55, anW2555, hl, h1, h2, symBad]) | (intro hc; (try simp [hnt, Try.ntmps55, Try.results55, anW2555, hl, h1, h2, symBad] at hc); done) | (intro hc; (try simp [hnt, Try.ntmps55, Try.results55, anW2555, hl, h1, h2, symBad] at hc); (first | (exfalso; omega) | skip)) | (refine callP_mk (check1_pure c s.n) ?_; try simp [hnt, Try.ntmps55, Try.results55, anW2555, hl, h1, h2, symBad]) | (refine callP_wk (check1_pure c s.n) ?_ ?_; (· (simp; done)); try simp [hnt, Try.ntmps55, Try.results55, anW2555, hl, h1, h2, symBad]) | (refine ⟨?_, ?_⟩; · omega) | omega | apply_assumption -exfalso -symm | (exfalso; omega)))

def anW2525 : Ann := ⟨[], [⟨1, [3], [], []⟩, ⟨5, [6], [], []⟩]⟩
set_option maxHeartbeats 4000000 in
theorem check_pure (c : Cnf) : DPure Try.prog 25 [.agg (dCnf c)] (.int .i64 (if cnfOK c then 0 else 220)) := by
  refine DPure_introF [] (fn := Try.f25) Try.func25 rfl Try.call25 (by simp [Try.ntmps25]) (by simp [mx]) ?_
  intro hwf B hnt
  have hw : wCnf c := w_cnf (by simpa [wfL, wfD] using hwf.1)
  obtain ⟨hw1, hw2, hw3, hw4⟩ := hw
  clear hwf hw1
  simp only [argS]
  have hstep : ∀ k, (hk : k < c.prods.length) → (c.prods.take (k + 1)).all (prodOK c) = ((c.prods.take k).all (prodOK c) && prodOK c c.prods[k]) := by
    intro k hk
    rw [List.take_succ_eq_append_getElem hk, List.all_append]; simp
  obtain ⟨b0, hb0⟩ : ∃ b0 : Bool, b0 = (decide (1 ≤ c.nts) && decide (c.nts ≤ 1024)) := ⟨_, rfl⟩
  have hfin : cnfOK c = (b0 && c.prods.all (prodOK c)) := by rw [hb0]; rfl
  by_cases h1 : 1 ≤ c.nts <;> by_cases h2 : c.nts ≤ 1024 <;> simp only [h1, h2, decide_true, decide_false, Bool.and_true, Bool.and_false] at hb0 <;> (repeat (first | (refine DW_seq fun K hK => ?_) | (refine DW_r anW2525 Try.mixed (by kernel_rfl) ?_; simp [hnt, Try.ntmps25, Try.results25, anW2525, dCnf, h1, h2]; try simp (disch := omega) only [wrap64_in]) | (refine DW_block ?_) | (focus (refine DW_if ?_ ?_ ?_; (· (simp [hnt, Try.ntmps25, Try.results25, anW2525, dCnf, h1, h2]; done)); (try (rotate_left; (· (intro hc; (try simp [hnt, Try.ntmps25, Try.results25, anW2525, dCnf, h1, h2] at hc); done)))))) | (refine DW_ret ?_; simp [hnt, Try.ntmps25, Try.results25, anW2525, dCnf, h1, h2]) | (refine DW_exit ?_; simp [hnt, Try.ntmps25, Try.results25, anW2525, dCnf, h1, h2]) | (refine DW_skip ?_; simp [hnt, Try.ntmps25, Try.results25, anW2525, dCnf, h1, h2]) | (intro hc; (try simp [hnt, Try.ntmps25, Try.results25, anW2525, dCnf, h1, h2] at hc); done) | (intro hc; (try simp [hnt, Try.ntmps25, Try.results25, anW2525, dCnf, h1, h2] at hc); (first | (exfalso; omega) | skip)) | (refine ⟨?_, ?_⟩; · omega) | omega | apply_assumption -exfalso -symm | (exfalso; omega)))
  all_goals
    refine DW_loop (X := {k : Nat // k ≤ c.prods.length}) (fun k => ⟨[(1, .ref [.int .i64 c.nts, dProds c.prods]), (3, .ref [dNt c]), (4, .bool (b0 && (c.prods.take k.1).all (prodOK c))), (17, dProds c.prods), (18, .int .i64 c.prods.length), (19, .int .i64 k.1)], []⟩) (fun k => c.prods.length - k.1) ⟨0, by simp⟩ (Sub.lit (by simp [hb0])) ?_
    rintro ⟨k, hk⟩
    by_cases hlt : k < c.prods.length
    · obtain ⟨p, hp, hp', hpm⟩ := at_lt' hlt
      have hst := hstep k hlt
      rw [hp'] at hst
      obtain ⟨b, hb⟩ : ∃ b : Bool, b = (b0 && (c.prods.take k).all (prodOK c)) := ⟨_, rfl⟩
      have hb1 : (b0 && (c.prods.take (k + 1)).all (prodOK c)) = (b && prodOK c p) := by rw [hst, hb, Bool.and_assoc]
      have hq := containsFunc54_pure 55 [] [.ref [dNt c]] p.body (symBad c) (fun x _ => check2_pure c x)
      simp only [← hb]
      cases b
      · (repeat (first | (refine DW_seq fun K hK => ?_) | (refine DW_r anW2525 Try.mixed (by kernel_rfl) ?_; simp [hnt, Try.ntmps25, Try.results25, anW2525, dCnf, dProd, hlt, hp', hb1]; try simp (disch := omega) only [wrap64_in]) | (refine DW_block ?_) | (focus (refine DW_if ?_ ?_ ?_; (· (simp [hnt, Try.ntmps25, Try.results25, anW2525, dCnf, dProd, hlt, hp', hb1]; done)); (try (rotate_left; (· (intro hc; (try simp [hnt, Try.ntmps25, Try.results25, anW2525, dCnf, dProd, hlt, hp', hb1] at hc); done)))))) | (refine DW_ret ?_; simp [hnt, Try.ntmps25, Try.results25, anW2525, dCnf, dProd, hlt, hp', hb1]) | (refine DW_exit ?_; simp [hnt, Try.ntmps25, Try.results25, anW2525, dCnf, dProd, hlt, hp', hb1]) | (refine DW_skip ?_; simp [hnt, Try.ntmps25, Try.results25, anW2525, dCnf, dProd, hlt, hp', hb1]) | (intro hc; (try simp [hnt, Try.ntmps25, Try.results25, anW2525, dCnf, dProd, hlt, hp', hb1] at hc); done) | (intro hc; (try simp [hnt, Try.ntmps25, Try.results25, anW2525, dCnf, dProd, hlt, hp', hb1] at hc); (first | (exfalso; omega) | skip)) | (refine callP_mk (check1_pure c p.head) ?_; try simp [hnt, Try.ntmps25, Try.results25, anW2525, dCnf, dProd, hlt, hp', hb1]) | (refine callP_wk (check1_pure c p.head) ?_ ?_; (· (simp; done)); try simp [hnt, Try.ntmps25, Try.results25, anW2525, dCnf, dProd, hlt, hp', hb1]) | (refine callP_mk (hq) ?_; try simp [hnt, Try.ntmps25, Try.results25, anW2525, dCnf, dProd, hlt, hp', hb1]) | (refine callP_wk (hq) ?_ ?_; (· (simp; done)); try simp [hnt, Try.ntmps25, Try.results25, anW2525, dCnf, dProd, hlt, hp', hb1]) | (refine ⟨?_, ?_⟩; · omega) | omega | apply_assumption -exfalso -symm | (exfalso; omega)))
        refine Again.mk ⟨k + 1, by omega⟩ (Sub.lit (by simp [hb1])) (by simp; omega)
        (repeat (first | (refine DW_seq fun K hK => ?_) | (refine DW_r anW2525 Try.mixed (by kernel_rfl) ?_; simp [hnt, Try.ntmps25, Try.results25, anW2525]; try simp (disch := omega) only [wrap64_in]) | (refine DW_block ?_) | (focus (refine DW_if ?_ ?_ ?_; (· (simp [hnt, Try.ntmps25, Try.results25, anW2525]; done)); (try (rotate_left; (· (intro hc; (try simp [hnt, Try.ntmps25, Try.results25, anW2525] at hc); done)))))) | (refine DW_ret ?_; simp [hnt, Try.ntmps25, Try.results25, anW2525]) | (refine DW_exit ?_; simp [hnt, Try.ntmps25, Try.results25, anW2525]) | (refine DW_skip ?_; simp [hnt, Try.ntmps25, Try.results25, anW2525]) | (intro hc; (try simp [hnt, Try.ntmps25, Try.results25, anW2525] at hc); done) | (intro hc; (try simp [hnt, Try.ntmps25, Try.results25, anW2525] at hc); (first | (exfalso; omega) | skip)) | (refine callP_mk (check1_pure c p.head) ?_; try simp [hnt, Try.ntmps25, Try.results25, anW2525]) | (refine callP_wk (check1_pure c p.head) ?_ ?_; (· (simp; done)); try simp [hnt, Try.ntmps25, Try.results25, anW2525]) | (refine callP_mk (hq) ?_; try simp [hnt, Try.ntmps25, Try.results25, anW2525]) | (refine callP_wk (hq) ?_ ?_; (· (simp; done)); try simp [hnt, Try.ntmps25, Try.results25, anW2525]) | (refine ⟨?_, ?_⟩; · omega) | omega | apply_assumption -exfalso -symm | (exfalso; omega)))
      · cases hn : ntOK c p.head
        · (repeat (first | (refine DW_seq fun K hK => ?_) | (refine DW_r anW2525 Try.mixed (by kernel_rfl) ?_; simp [hnt, Try.ntmps25, Try.results25, anW2525, dCnf, dProd, hlt, hp', hb1, hn]; try simp (disch := omega) only [wrap64_in]) | (refine DW_block ?_) | (focus (refine DW_if ?_ ?_ ?_; (· (simp [hnt, Try.ntmps25, Try.results25, anW2525, dCnf, dProd, hlt, hp', hb1, hn]; done)); (try (rotate_left; (· (intro hc; (try simp [hnt, Try.ntmps25, Try.results25, anW2525, dCnf, dProd, hlt, hp', hb1, hn] at hc); done)))))) | (refine DW_ret ?_; simp [hnt, Try.ntmps25, Try.results25, anW2525, dCnf, dProd, hlt, hp', hb1, hn]) | (refine DW_exit ?_; simp [hnt, Try.ntmps25, Try.results25, anW2525, dCnf, dProd, hlt, hp', hb1, hn]) | (refine DW_skip ?_; simp [hnt, Try.ntmps25, Try.results25, anW2525, dCnf, dProd, hlt, hp', hb1, hn]) | (intro hc; (try simp [hnt, Try.ntmps25, Try.results25, anW2525, dCnf, dProd, hlt, hp', hb1, hn] at hc); done) | (intro hc; (try simp [hnt, Try.ntmps25, Try.results25, anW2525, dCnf, dProd, hlt, hp', hb1, hn] at hc); (first | (exfalso; omega) | skip)) | (refine callP_mk (check1_pure c p.head) ?_; try simp [hnt, Try.ntmps25, Try.results25, anW2525, dCnf, dProd, hlt, hp', hb1, hn]) | (refine callP_wk (check1_pure c p.head) ?_ ?_; (· (simp; done)); try simp [hnt, Try.ntmps25, Try.results25, anW2525, dCnf, dProd, hlt, hp', hb1, hn]) | (refine callP_mk (hq) ?_; try simp [hnt, Try.ntmps25, Try.results25, anW2525, dCnf, dProd, hlt, hp', hb1, hn]) | (refine callP_wk (hq) ?_ ?_; (· (simp; done)); try simp [hnt, Try.ntmps25, Try.results25, anW2525, dCnf, dProd, hlt, hp', hb1, hn]) | (refine ⟨?_, ?_⟩; · omega) | omega | apply_assumption -exfalso -symm | (exfalso; omega)))
          refine Again.mk ⟨k + 1, by omega⟩ (Sub.lit (by simp [hb1, prodOK, hn])) (by simp; omega)
          (repeat (first | (refine DW_seq fun K hK => ?_) | (refine DW_r anW2525 Try.mixed (by kernel_rfl) ?_; simp [hnt, Try.ntmps25, Try.results25, anW2525]; try simp (disch := omega) only [wrap64_in]) | (refine DW_block ?_) | (focus (refine DW_if ?_ ?_ ?_; (· (simp [hnt, Try.ntmps25, Try.results25, anW2525]; done)); (try (rotate_left; (· (intro hc; (try simp [hnt, Try.ntmps25, Try.results25, anW2525] at hc); done)))))) | (refine DW_ret ?_; simp [hnt, Try.ntmps25, Try.results25, anW2525]) | (refine DW_exit ?_; simp [hnt, Try.ntmps25, Try.results25, anW2525]) | (refine DW_skip ?_; simp [hnt, Try.ntmps25, Try.results25, anW2525]) | (intro hc; (try simp [hnt, Try.ntmps25, Try.results25, anW2525] at hc); done) | (intro hc; (try simp [hnt, Try.ntmps25, Try.results25, anW2525] at hc); (first | (exfalso; omega) | skip)) | (refine callP_mk (check1_pure c p.head) ?_; try simp [hnt, Try.ntmps25, Try.results25, anW2525]) | (refine callP_wk (check1_pure c p.head) ?_ ?_; (· (simp; done)); try simp [hnt, Try.ntmps25, Try.results25, anW2525]) | (refine callP_mk (hq) ?_; try simp [hnt, Try.ntmps25, Try.results25, anW2525]) | (refine callP_wk (hq) ?_ ?_; (· (simp; done)); try simp [hnt, Try.ntmps25, Try.results25, anW2525]) | (refine ⟨?_, ?_⟩; · omega) | omega | apply_assumption -exfalso -symm | (exfalso; omega)))
        · cases ha : p.body.any (symBad c)
          · rw [ha] at hq
            (repeat (first | (refine DW_seq fun K hK => ?_) | (refine DW_r anW2525 Try.mixed (by kernel_rfl) ?_; simp [hnt, Try.ntmps25, Try.results25, anW2525, dCnf, dProd, hlt, hp', hb1, hn, ha]; try simp (disch := omega) only [wrap64_in]) | (refine DW_block ?_) | (focus (refine DW_if ?_ ?_ ?_; (· (simp [hnt, Try.ntmps25, Try.results25, anW2525, dCnf, dProd, hlt, hp', hb1, hn, ha]; done)); (try (rotate_left; (· (intro hc; (try simp [hnt, Try.ntmps25, Try.results25, anW2525, dCnf, dProd, hlt, hp', hb1, hn, ha] at hc); done)))))) | (refine DW_ret ?_; simp [hnt, Try.ntmps25, Try.results25, anW2525, dCnf, dProd, hlt, hp', hb1, hn, ha]) | (refine DW_exit ?_; simp [hnt, Try.ntmps25, Try.results25, anW2525, dCnf, dProd, hlt, hp', hb1, hn, ha]) | (refine DW_skip ?_; simp [hnt, Try.ntmps25, Try.results25, anW2525, dCnf, dProd, hlt, hp', hb1, hn, ha]) | (intro hc; (try simp [hnt, Try.ntmps25, Try.results25, anW2525, dCnf, dProd, hlt, hp', hb1, hn, ha] at hc); done) | (intro hc; (try simp [hnt, Try.ntmps25, Try.results25, anW2525, dCnf, dProd, hlt, hp', hb1, hn, ha] at hc); (first | (exfalso; omega) | skip)) | (refine callP_mk (check1_pure c p.head) ?_; try simp [hnt, Try.ntmps25, Try.results25, anW2525, dCnf, dProd, hlt, hp', hb1, hn, ha]) | (refine callP_wk (check1_pure c p.head) ?_ ?_; (· (simp; done)); try simp [hnt, Try.ntmps25, Try.results25, anW2525, dCnf, dProd, hlt, hp', hb1, hn, ha]) | (refine callP_mk (hq) ?_; try simp [hnt, Try.ntmps25, Try.results25, anW2525, dCnf, dProd, hlt, hp', hb1, hn, ha]) | (refine callP_wk (hq) ?_ ?_; (· (simp; done)); try simp [hnt, Try.ntmps25, Try.results25, anW2525, dCnf, dProd, hlt, hp', hb1, hn, ha]) | (refine ⟨?_, ?_⟩; · omega) | omega | apply_assumption -exfalso -symm | (exfalso; omega)))
            refine Again.mk ⟨k + 1, by omega⟩ (Sub.lit (by simp [hb1, prodOK, hn, ha])) (by simp; omega)
            (repeat (first | (refine DW_seq fun K hK => ?_) | (refine DW_r anW2525 Try.mixed (by kernel_rfl) ?_; simp [hnt, Try.ntmps25, Try.results25, anW2525]; try simp (disch := omega) only [wrap64_in]) | (refine DW_block ?_) | (focus (refine DW_if ?_ ?_ ?_; (· (simp [hnt, Try.ntmps25, Try.results25, anW2525]; done)); (try (rotate_left; (· (intro hc; (try simp [hnt, Try.ntmps25, Try.results25, anW2525] at hc); done)))))) | (refine DW_ret ?_; simp [hnt, Try.ntmps25, Try.results25, anW2525]) | (refine DW_exit ?_; simp [hnt, Try.ntmps25, Try.results25, anW2525]) | (refine DW_skip ?_; simp [hnt, Try.ntmps25, Try.results25, anW2525]) | (intro hc; (try simp [hnt, Try.ntmps25, Try.results25, anW2525] at hc); done) | (intro hc; (try simp [hnt, Try.ntmps25, Try.results25, anW2525] at hc); (first | (exfalso; omega) | skip)) | (refine callP_mk (check1_pure c p.head) ?_; try simp [hnt, Try.ntmps25, Try.results25, anW2525]) | (refine callP_wk (check1_pure c p.head) ?_ ?_; (· (simp; done)); try simp [hnt, Try.ntmps25, Try.results25, anW2525]) | (refine callP_mk (hq) ?_; try simp [hnt, Try.ntmps25, Try.results25, anW2525]) | (refine callP_wk (hq) ?_ ?_; (· (simp; done)); try simp [hnt, Try.ntmps25, Try.results25, anW2525]) | (refine ⟨?_, ?_⟩; · omega) | omega | apply_assumption -exfalso -symm | (exfalso; omega)))
          · rw [ha] at hq
            (repeat (first | (refine DW_seq fun K hK => ?_) | (refine DW_r anW2525 Try.mixed (by kernel_rfl) ?_; simp [hnt, Try.ntmps25, Try.results25, anW2525, dCnf, dProd, hlt, hp', hb1, hn, ha]; try simp (disch := omega) only [wrap64_in]) | (refine DW_block ?_) | (focus (refine DW_if ?_ ?_ ?_; (· (simp [hnt, Try.ntmps25, Try.results25, anW2525, dCnf, dProd, hlt, hp', hb1, hn, ha]; done)); (try (rotate_left; (· (intro hc; (try simp [hnt, Try.ntmps25, Try.results25, anW2525, dCnf, dProd, hlt, hp', hb1, hn, ha] at hc); done)))))) | (refine DW_ret ?_; simp [hnt, Try.ntmps25, Try.results25, anW2525, dCnf, dProd, hlt, hp', hb1, hn, ha]) | (refine DW_exit ?_; simp [hnt, Try.ntmps25, Try.results25, anW2525, dCnf, dProd, hlt, hp', hb1, hn, ha]) | (refine DW_skip ?_; simp [hnt, Try.ntmps25, Try.results25, anW2525, dCnf, dProd, hlt, hp', hb1, hn, ha]) | (intro hc; (try simp [hnt, Try.ntmps25, Try.results25, anW2525, dCnf, dProd, hlt, hp', hb1, hn, ha] at hc); done) | (intro hc; (try simp [hnt, Try.ntmps25, Try.results25, anW2525, dCnf, dProd, hlt, hp', hb1, hn, ha] at hc); (first | (exfalso; omega) | skip)) | (refine callP_mk (check1_pure c p.head) ?_; try simp [hnt, Try.ntmps25, Try.results25, anW2525, dCnf, dProd, hlt, hp', hb1, hn, ha]) | (refine callP_wk (check1_pure c p.head) ?_ ?_; (· (simp; done)); try simp [hnt, Try.ntmps25, Try.results25, anW2525, dCnf, dProd, hlt, hp', hb1, hn, ha]) | (refine callP_mk (hq) ?_; try simp [hnt, Try.ntmps25, Try.results25, anW2525, dCnf, dProd, hlt, hp', hb1, hn, ha]) | (refine callP_wk (hq) ?_ ?_; (· (simp; done)); try simp [hnt, Try.ntmps25, Try.results25, anW2525, dCnf, dProd, hlt, hp', hb1, hn, ha]) | (refine ⟨?_, ?_⟩; · omega) | omega | apply_assumption -exfalso -symm | (exfalso; omega)))
            refine Again.mk ⟨k + 1, by omega⟩ (Sub.lit (by simp [hb1, prodOK, hn, ha])) (by simp; omega)
            (repeat (first | (refine DW_seq fun K hK => ?_) | (refine DW_r anW2525 Try.mixed (by kernel_rfl) ?_; simp [hnt, Try.ntmps25, Try.results25, anW2525]; try simp (disch := omega) only [wrap64_in]) | (refine DW_block ?_) | (focus (refine DW_if ?_ ?_ ?_; (· (simp [hnt, Try.ntmps25, Try.results25, anW2525]; done)); (try (rotate_left; (· (intro hc; (try simp [hnt, Try.ntmps25, Try.results25, anW2525] at hc); done)))))) | (refine DW_ret ?_; simp [hnt, Try.ntmps25, Try.results25, anW2525]) | (refine DW_exit ?_; simp [hnt, Try.ntmps25, Try.results25, anW2525]) | (refine DW_skip ?_; simp [hnt, Try.ntmps25, Try.results25, anW2525]) | (intro hc; (try simp [hnt, Try.ntmps25, Try.results25, anW2525] at hc); done) | (intro hc; (try simp [hnt, Try.ntmps25, Try.results25, anW2525] at hc); (first | (exfalso; omega) | skip)) | (refine callP_mk (check1_pure c p.head) ?_; try simp [hnt, Try.ntmps25, Try.results25, anW2525]) | (refine callP_wk (check1_pure c p.head) ?_ ?_; (· (simp; done)); try simp [hnt, Try.ntmps25, Try.results25, anW2525]) | (refine callP_mk (hq) ?_; try simp [hnt, Try.ntmps25, Try.results25, anW2525]) | (refine callP_wk (hq) ?_ ?_; (· (simp; done)); try simp [hnt, Try.ntmps25, Try.results25, anW2525]) | (refine ⟨?_, ?_⟩; · omega) | omega | apply_assumption -exfalso -symm | (exfalso; omega)))
    · have hkk : k = c.prods.length := by omega
      subst hkk
      rw [List.take_length] at *
      cases hcn : cnfOK c <;> rw [hcn] at hfin <;> (repeat (first | (refine DW_seq fun K hK => ?_) | (refine DW_r anW2525 Try.mixed (by kernel_rfl) ?_; simp [hnt, Try.ntmps25, Try.results25, anW2525, dCnf, hcn, ← hfin]; try simp (disch := omega) only [wrap64_in]) | (refine DW_block ?_) | (focus (refine DW_if ?_ ?_ ?_; (· (simp [hnt, Try.ntmps25, Try.results25, anW2525, dCnf, hcn, ← hfin]; done)); (try (rotate_left; (· (intro hc; (try simp [hnt, Try.ntmps25, Try.results25, anW2525, dCnf, hcn, ← hfin] at hc); done)))))) | (refine DW_ret ?_; simp [hnt, Try.ntmps25, Try.results25, anW2525, dCnf, hcn, ← hfin]) | (refine DW_exit ?_; simp [hnt, Try.ntmps25, Try.results25, anW2525, dCnf, hcn, ← hfin]) | (refine DW_skip ?_; simp [hnt, Try.ntmps25, Try.results25, anW2525, dCnf, hcn, ← hfin]) | (intro hc; (try simp [hnt, Try.ntmps25, Try.results25, anW2525, dCnf, hcn, ← hfin] at hc); done) | (intro hc; (try simp [hnt, Try.ntmps25, Try.results25, anW2525, dCnf, hcn, ← hfin] at hc); (first | (exfalso; omega) | skip)) | (refine ⟨?_, ?_⟩; · omega) | omega | apply_assumption -exfalso -symm | (exfalso; omega)))
end Go.Proofs.Ytihkcegelghcpaa
end

section
/- rules: shapes, Same, Most, Rules$1 -/


set_option linter.unusedSimpArgs false
set_option linter.unusedVariables false
namespace Go.Proofs.Ytihkcegelghcpaa
open Go Go.Dm
attribute [local irreducible] DW callP callS
set_option maxRecDepth 100000

structure Nd where
  k : Int
  s : ByteArray
  n : Int
  deriving DecidableEq
def dNd (x : Nd) : List DVal := [.int .i64 x.k, .str x.s, .int .i64 x.n]
abbrev dNds (l : List Nd) : DVal := .sl 3 32 (l.map dNd)
structure Rul where
  h : ByteArray
  b : List Nd
  deriving DecidableEq
def dRul (r : Rul) : List DVal := [.str r.h, dNds r.b]
abbrev dRuls (l : List Rul) : DVal := .sl 2 40 (l.map dRul)
@[simp] theorem mx_dNd (s : Nd) : mxL (dNd s) = 0 := by simp [dNd, mxL, mx]
@[simp] theorem mx_dNds (l : List Nd) : mxR (l.map dNd) = 0 := mxR0 _ mx_dNd l
@[simp] theorem mx_dRul (s : Rul) : mxL (dRul s) = 0 := by simp [dRul, mxL, mx]
@[simp] theorem mx_dRuls (l : List Rul) : mxR (l.map dRul) = 0 := mxR0 _ mx_dRul l
theorem len_nds {l : List Nd} (h : wfD (dNds l)) : l.length < 9223372036854775807 := by
  simp only [wfD, List.length_map] at h
  omega
theorem len_ruls {l : List Rul} (h : wfD (dRuls l)) : l.length < 9223372036854775807 := by
  simp only [wfD, List.length_map] at h
  omega

def anWR480 : Ann := ⟨[], []⟩
theorem same80_refl (l : List Nd) : DPure Try.prog 80 [dNds l, dNds l] (.bool true) := by
  refine DPure_introF [] (fn := Try.f80) Try.func80 rfl Try.call80 (by simp [Try.ntmps80]) (by simp [mx]) ?_
  intro hwf B hnt
  have hlen := len_nds hwf.1
  clear hwf
  simp only [argS]
  (repeat (first | (refine DW_seq fun K hK => ?_) | (refine DW_r anWR480 Try.mixed (by kernel_rfl) ?_; simp [hnt, Try.ntmps80, Try.results80, anWR480]; try simp (disch := omega) only [wrap64_in]) | (refine DW_block ?_) | (focus (refine DW_if ?_ ?_ ?_; (· (simp [hnt, Try.ntmps80, Try.results80, anWR480]; done)); (try (rotate_left; (· (intro hc; (try simp [hnt, Try.ntmps80, Try.results80, anWR480] at hc); done)))))) | (refine DW_ret ?_; simp [hnt, Try.ntmps80, Try.results80, anWR480]) | (refine DW_exit ?_; simp [hnt, Try.ntmps80, Try.results80, anWR480]) | (refine DW_skip ?_; simp [hnt, Try.ntmps80, Try.results80, anWR480]) | (intro hc; (try simp [hnt, Try.ntmps80, Try.results80, anWR480] at hc); done) | (intro hc; (try simp [hnt, Try.ntmps80, Try.results80, anWR480] at hc); (first | (exfalso; omega) | skip)) | (refine ⟨?_, ?_⟩; · omega) | omega | apply_assumption -exfalso -symm | (exfalso; omega)))
  refine DW_loop (X := {k : Nat // k ≤ l.length}) (fun x => ⟨[(0, dNds l), (1, dNds l), (5, .int .i64 x.1)], []⟩) (fun x => l.length - x.1) ⟨0, by simp⟩ (Sub.lit (by simp)) ?_
  rintro ⟨k, hk⟩
  by_cases hlt : k < l.length
  · obtain ⟨x, hx, hx', _⟩ := at_lt' hlt
    (repeat (first | (refine DW_seq fun K hK => ?_) | (refine DW_r anWR480 Try.mixed (by kernel_rfl) ?_; simp [hnt, Try.ntmps80, Try.results80, anWR480, dNd, hlt, hx, hx']; try simp (disch := omega) only [wrap64_in]) | (refine DW_block ?_) | (focus (refine DW_if ?_ ?_ ?_; (· (simp [hnt, Try.ntmps80, Try.results80, anWR480, dNd, hlt, hx, hx']; done)); (try (rotate_left; (· (intro hc; (try simp [hnt, Try.ntmps80, Try.results80, anWR480, dNd, hlt, hx, hx'] at hc); done)))))) | (refine DW_ret ?_; simp [hnt, Try.ntmps80, Try.results80, anWR480, dNd, hlt, hx, hx']) | (refine DW_exit ?_; simp [hnt, Try.ntmps80, Try.results80, anWR480, dNd, hlt, hx, hx']) | (refine DW_skip ?_; simp [hnt, Try.ntmps80, Try.results80, anWR480, dNd, hlt, hx, hx']) | (intro hc; (try simp [hnt, Try.ntmps80, Try.results80, anWR480, dNd, hlt, hx, hx'] at hc); done) | (intro hc; (try simp [hnt, Try.ntmps80, Try.results80, anWR480, dNd, hlt, hx, hx'] at hc); (first | (exfalso; omega) | skip)) | (refine ⟨?_, ?_⟩; · omega) | omega | apply_assumption -exfalso -symm | (exfalso; omega)))
    refine Again.mk ⟨k + 1, by omega⟩ (Sub.lit (by simp [])) (by simp; omega)
    (repeat (first | (refine DW_seq fun K hK => ?_) | (refine DW_r anWR480 Try.mixed (by kernel_rfl) ?_; simp [hnt, Try.ntmps80, Try.results80, anWR480]; try simp (disch := omega) only [wrap64_in]) | (refine DW_block ?_) | (focus (refine DW_if ?_ ?_ ?_; (· (simp [hnt, Try.ntmps80, Try.results80, anWR480]; done)); (try (rotate_left; (· (intro hc; (try simp [hnt, Try.ntmps80, Try.results80, anWR480] at hc); done)))))) | (refine DW_ret ?_; simp [hnt, Try.ntmps80, Try.results80, anWR480]) | (refine DW_exit ?_; simp [hnt, Try.ntmps80, Try.results80, anWR480]) | (refine DW_skip ?_; simp [hnt, Try.ntmps80, Try.results80, anWR480]) | (intro hc; (try simp [hnt, Try.ntmps80, Try.results80, anWR480] at hc); done) | (intro hc; (try simp [hnt, Try.ntmps80, Try.results80, anWR480] at hc); (first | (exfalso; omega) | skip)) | (refine ⟨?_, ?_⟩; · omega) | omega | apply_assumption -exfalso -symm | (exfalso; omega)))
  · have hkk : k = l.length := by omega
    subst hkk
    (repeat (first | (refine DW_seq fun K hK => ?_) | (refine DW_r anWR480 Try.mixed (by kernel_rfl) ?_; simp [hnt, Try.ntmps80, Try.results80, anWR480]; try simp (disch := omega) only [wrap64_in]) | (refine DW_block ?_) | (focus (refine DW_if ?_ ?_ ?_; (· (simp [hnt, Try.ntmps80, Try.results80, anWR480]; done)); (try (rotate_left; (· (intro hc; (try simp [hnt, Try.ntmps80, Try.results80, anWR480] at hc); done)))))) | (refine DW_ret ?_; simp [hnt, Try.ntmps80, Try.results80, anWR480]) | (refine DW_exit ?_; simp [hnt, Try.ntmps80, Try.results80, anWR480]) | (refine DW_skip ?_; simp [hnt, Try.ntmps80, Try.results80, anWR480]) | (intro hc; (try simp [hnt, Try.ntmps80, Try.results80, anWR480] at hc); done) | (intro hc; (try simp [hnt, Try.ntmps80, Try.results80, anWR480] at hc); (first | (exfalso; omega) | skip)) | (refine ⟨?_, ?_⟩; · omega) | omega | apply_assumption -exfalso -symm | (exfalso; omega)))
def anWR440 : Ann := ⟨[], []⟩
theorem same40_refl (l : List Rul) : DPure Try.prog 40 [dRuls l, dRuls l] (.bool true) := by
  refine DPure_introF [] (fn := Try.f40) Try.func40 rfl Try.call40 (by simp [Try.ntmps40]) (by simp [mx]) ?_
  intro hwf B hnt
  have hlen := len_ruls hwf.1
  clear hwf
  simp only [argS]
  (repeat (first | (refine DW_seq fun K hK => ?_) | (refine DW_r anWR440 Try.mixed (by kernel_rfl) ?_; simp [hnt, Try.ntmps40, Try.results40, anWR440]; try simp (disch := omega) only [wrap64_in]) | (refine DW_block ?_) | (focus (refine DW_if ?_ ?_ ?_; (· (simp [hnt, Try.ntmps40, Try.results40, anWR440]; done)); (try (rotate_left; (· (intro hc; (try simp [hnt, Try.ntmps40, Try.results40, anWR440] at hc); done)))))) | (refine DW_ret ?_; simp [hnt, Try.ntmps40, Try.results40, anWR440]) | (refine DW_exit ?_; simp [hnt, Try.ntmps40, Try.results40, anWR440]) | (refine DW_skip ?_; simp [hnt, Try.ntmps40, Try.results40, anWR440]) | (intro hc; (try simp [hnt, Try.ntmps40, Try.results40, anWR440] at hc); done) | (intro hc; (try simp [hnt, Try.ntmps40, Try.results40, anWR440] at hc); (first | (exfalso; omega) | skip)) | (refine ⟨?_, ?_⟩; · omega) | omega | apply_assumption -exfalso -symm | (exfalso; omega)))
  refine DW_loop (X := {k : Nat // k ≤ l.length}) (fun x => ⟨[(0, dRuls l), (1, dRuls l), (5, .int .i64 x.1)], []⟩) (fun x => l.length - x.1) ⟨0, by simp⟩ (Sub.lit (by simp)) ?_
  rintro ⟨k, hk⟩
  by_cases hlt : k < l.length
  · obtain ⟨x, hx, hx', _⟩ := at_lt' hlt
    have h1 := same80_refl x.b
    (repeat (first | (refine DW_seq fun K hK => ?_) | (refine DW_r anWR440 Try.mixed (by kernel_rfl) ?_; simp [hnt, Try.ntmps40, Try.results40, anWR440, dRul, hlt, hx, hx']; try simp (disch := omega) only [wrap64_in]) | (refine DW_block ?_) | (focus (refine DW_if ?_ ?_ ?_; (· (simp [hnt, Try.ntmps40, Try.results40, anWR440, dRul, hlt, hx, hx']; done)); (try (rotate_left; (· (intro hc; (try simp [hnt, Try.ntmps40, Try.results40, anWR440, dRul, hlt, hx, hx'] at hc); done)))))) | (refine DW_ret ?_; simp [hnt, Try.ntmps40, Try.results40, anWR440, dRul, hlt, hx, hx']) | (refine DW_exit ?_; simp [hnt, Try.ntmps40, Try.results40, anWR440, dRul, hlt, hx, hx']) | (refine DW_skip ?_; simp [hnt, Try.ntmps40, Try.results40, anWR440, dRul, hlt, hx, hx']) | (intro hc; (try simp [hnt, Try.ntmps40, Try.results40, anWR440, dRul, hlt, hx, hx'] at hc); done) | (intro hc; (try simp [hnt, Try.ntmps40, Try.results40, anWR440, dRul, hlt, hx, hx'] at hc); (first | (exfalso; omega) | skip)) | (refine callP_mk (h1) ?_; try simp [hnt, Try.ntmps40, Try.results40, anWR440, dRul, hlt, hx, hx']) | (refine callP_wk (h1) ?_ ?_; (· (simp; done)); try simp [hnt, Try.ntmps40, Try.results40, anWR440, dRul, hlt, hx, hx']) | (refine ⟨?_, ?_⟩; · omega) | omega | apply_assumption -exfalso -symm | (exfalso; omega)))
    refine Again.mk ⟨k + 1, by omega⟩ (Sub.lit (by simp [])) (by simp; omega)
    (repeat (first | (refine DW_seq fun K hK => ?_) | (refine DW_r anWR440 Try.mixed (by kernel_rfl) ?_; simp [hnt, Try.ntmps40, Try.results40, anWR440]; try simp (disch := omega) only [wrap64_in]) | (refine DW_block ?_) | (focus (refine DW_if ?_ ?_ ?_; (· (simp [hnt, Try.ntmps40, Try.results40, anWR440]; done)); (try (rotate_left; (· (intro hc; (try simp [hnt, Try.ntmps40, Try.results40, anWR440] at hc); done)))))) | (refine DW_ret ?_; simp [hnt, Try.ntmps40, Try.results40, anWR440]) | (refine DW_exit ?_; simp [hnt, Try.ntmps40, Try.results40, anWR440]) | (refine DW_skip ?_; simp [hnt, Try.ntmps40, Try.results40, anWR440]) | (intro hc; (try simp [hnt, Try.ntmps40, Try.results40, anWR440] at hc); done) | (intro hc; (try simp [hnt, Try.ntmps40, Try.results40, anWR440] at hc); (first | (exfalso; omega) | skip)) | (refine callP_mk (h1) ?_; try simp [hnt, Try.ntmps40, Try.results40, anWR440]) | (refine callP_wk (h1) ?_ ?_; (· (simp; done)); try simp [hnt, Try.ntmps40, Try.results40, anWR440]) | (refine ⟨?_, ?_⟩; · omega) | omega | apply_assumption -exfalso -symm | (exfalso; omega)))
  · have hkk : k = l.length := by omega
    subst hkk
    (repeat (first | (refine DW_seq fun K hK => ?_) | (refine DW_r anWR440 Try.mixed (by kernel_rfl) ?_; simp [hnt, Try.ntmps40, Try.results40, anWR440]; try simp (disch := omega) only [wrap64_in]) | (refine DW_block ?_) | (focus (refine DW_if ?_ ?_ ?_; (· (simp [hnt, Try.ntmps40, Try.results40, anWR440]; done)); (try (rotate_left; (· (intro hc; (try simp [hnt, Try.ntmps40, Try.results40, anWR440] at hc); done)))))) | (refine DW_ret ?_; simp [hnt, Try.ntmps40, Try.results40, anWR440]) | (refine DW_exit ?_; simp [hnt, Try.ntmps40, Try.results40, anWR440]) | (refine DW_skip ?_; simp [hnt, Try.ntmps40, Try.results40, anWR440]) | (intro hc; (try simp [hnt, Try.ntmps40, Try.results40, anWR440] at hc); done) | (intro hc; (try simp [hnt, Try.ntmps40, Try.results40, anWR440] at hc); (first | (exfalso; omega) | skip)) | (refine ⟨?_, ?_⟩; · omega) | omega | apply_assumption -exfalso -symm | (exfalso; omega)))
theorem same40_nil : DPure Try.prog 40 [.nilsl, .nilsl] (.bool true) := by
  refine DPure_introF [] (fn := Try.f40) Try.func40 rfl Try.call40 (by simp [Try.ntmps40]) (by simp [mx]) ?_
  intro hwf B hnt
  clear hwf
  simp only [argS]
  (repeat (first | (refine DW_seq fun K hK => ?_) | (refine DW_r anWR440 Try.mixed (by kernel_rfl) ?_; simp [hnt, Try.ntmps40, Try.results40, anWR440]; try simp (disch := omega) only [wrap64_in]) | (refine DW_block ?_) | (focus (refine DW_if ?_ ?_ ?_; (· (simp [hnt, Try.ntmps40, Try.results40, anWR440]; done)); (try (rotate_left; (· (intro hc; (try simp [hnt, Try.ntmps40, Try.results40, anWR440] at hc); done)))))) | (refine DW_ret ?_; simp [hnt, Try.ntmps40, Try.results40, anWR440]) | (refine DW_exit ?_; simp [hnt, Try.ntmps40, Try.results40, anWR440]) | (refine DW_skip ?_; simp [hnt, Try.ntmps40, Try.results40, anWR440]) | (intro hc; (try simp [hnt, Try.ntmps40, Try.results40, anWR440] at hc); done) | (intro hc; (try simp [hnt, Try.ntmps40, Try.results40, anWR440] at hc); (first | (exfalso; omega) | skip)) | (refine ⟨?_, ?_⟩; · omega) | omega | apply_assumption -exfalso -symm | (exfalso; omega)))
  refine DW_loop (X := Unit) (fun x => ⟨[(0, .nilsl), (1, .nilsl), (5, .int .i64 0)], []⟩) (fun x => 0) () (Sub.lit (by simp)) ?_
  rintro ⟨⟩
  (repeat (first | (refine DW_seq fun K hK => ?_) | (refine DW_r anWR440 Try.mixed (by kernel_rfl) ?_; simp [hnt, Try.ntmps40, Try.results40, anWR440]; try simp (disch := omega) only [wrap64_in]) | (refine DW_block ?_) | (focus (refine DW_if ?_ ?_ ?_; (· (simp [hnt, Try.ntmps40, Try.results40, anWR440]; done)); (try (rotate_left; (· (intro hc; (try simp [hnt, Try.ntmps40, Try.results40, anWR440] at hc); done)))))) | (refine DW_ret ?_; simp [hnt, Try.ntmps40, Try.results40, anWR440]) | (refine DW_exit ?_; simp [hnt, Try.ntmps40, Try.results40, anWR440]) | (refine DW_skip ?_; simp [hnt, Try.ntmps40, Try.results40, anWR440]) | (intro hc; (try simp [hnt, Try.ntmps40, Try.results40, anWR440] at hc); done) | (intro hc; (try simp [hnt, Try.ntmps40, Try.results40, anWR440] at hc); (first | (exfalso; omega) | skip)) | (refine ⟨?_, ?_⟩; · omega) | omega | apply_assumption -exfalso -symm | (exfalso; omega)))

/-- one more than the greatest label's number -/
def stepM (m : Int) (s : Sym) : Int := if s.label then max m (s.n + 1) else m
def mostP (m : Int) (p : Prod) : Int := p.body.foldl stepM m
def mostC (c : Cnf) : Int := c.prods.foldl mostP 0
theorem foldl_drop {α β : Type} {f : β → α → β} {l : List α} {k : Nat} {x : α} {m : β} (hx : l[k]? = some x) : (l.drop k).foldl f m = (l.drop (k + 1)).foldl f (f m x) := by
  obtain ⟨h1, rfl⟩ := List.getElem?_eq_some_iff.1 hx
  rw [List.drop_eq_getElem_cons h1, List.foldl_cons]
theorem ok_prod {c : Cnf} (h : cnfOK c = true) {p : Prod} (hp : p ∈ c.prods) : 0 ≤ p.head ∧ p.head < c.nts ∧ ∀ s ∈ p.body, 0 ≤ s.n ∧ (s.label = true → s.n < 16) ∧ (s.label = false → s.n < c.nts) := by
  unfold cnfOK at h
  simp only [Bool.and_eq_true, List.all_eq_true] at h
  have := h.2 p hp
  unfold prodOK ntOK at this
  simp only [Bool.and_eq_true, decide_eq_true_eq, Bool.not_eq_true', List.any_eq_false] at this
  refine ⟨this.1.1, this.1.2, fun s hs => ?_⟩
  have hs := this.2 s hs
  unfold symBad ntOK at hs
  cases hl : s.label <;> simp [hl] at hs <;> simp <;> omega
theorem ok_nts {c : Cnf} (h : cnfOK c = true) : 1 ≤ c.nts ∧ c.nts ≤ 1024 := by
  unfold cnfOK at h
  simp only [Bool.and_eq_true, decide_eq_true_eq] at h
  exact h.1

def anWR478 : Ann := ⟨[], [⟨8, [6], [], []⟩]⟩
set_option maxHeartbeats 1000000 in
theorem most78_pure (c : Cnf) (hok : cnfOK c = true) : DPure Try.prog 78 [.agg (dCnf c)] (.int .i64 (mostC c)) := by
  refine DPure_introF [] (fn := Try.f78) Try.func78 rfl Try.call78 (by simp [Try.ntmps78]) (by simp [mx]) ?_
  intro hwf B hnt
  have hw : wCnf c := w_cnf (by simpa [wfL, wfD] using hwf.1)
  obtain ⟨hw1, hw2, hw3, hw4⟩ := hw
  clear hwf hw1
  simp only [argS]
  obtain ⟨M, hM⟩ : ∃ M, M = mostC c := ⟨_, rfl⟩
  rw [← hM]
  unfold mostC at hM
  (repeat (first | (refine DW_seq fun K hK => ?_) | (refine DW_r anWR478 Try.mixed (by kernel_rfl) ?_; simp [hnt, Try.ntmps78, Try.results78, anWR478, dCnf]; try simp (disch := omega) only [wrap64_in]) | (refine DW_block ?_) | (focus (refine DW_if ?_ ?_ ?_; (· (simp [hnt, Try.ntmps78, Try.results78, anWR478, dCnf]; done)); (try (rotate_left; (· (intro hc; (try simp [hnt, Try.ntmps78, Try.results78, anWR478, dCnf] at hc); done)))))) | (refine DW_ret ?_; simp [hnt, Try.ntmps78, Try.results78, anWR478, dCnf]) | (refine DW_exit ?_; simp [hnt, Try.ntmps78, Try.results78, anWR478, dCnf]) | (refine DW_skip ?_; simp [hnt, Try.ntmps78, Try.results78, anWR478, dCnf]) | (intro hc; (try simp [hnt, Try.ntmps78, Try.results78, anWR478, dCnf] at hc); done) | (intro hc; (try simp [hnt, Try.ntmps78, Try.results78, anWR478, dCnf] at hc); (first | (exfalso; omega) | skip)) | (refine ⟨?_, ?_⟩; · omega) | omega | apply_assumption -exfalso -symm | (exfalso; omega)))
  refine DW_loop (X := {x : Nat × Int // x.1 ≤ c.prods.length ∧ M = (c.prods.drop x.1).foldl mostP x.2}) (fun x => ⟨[(1, .ref [.int .i64 c.nts, dProds c.prods]), (3, .int .i64 x.1.2), (4, .int .i64 x.1.1)], []⟩) (fun x => c.prods.length - x.1.1) ⟨(0, 0), by simp, by simpa using hM⟩ (Sub.lit (by simp)) ?_
  clear hM
  rintro ⟨⟨k, m⟩, hk, hM⟩
  simp only at hk hM ⊢
  by_cases hlt : k < c.prods.length
  · obtain ⟨p, hp, hp', hpm⟩ := at_lt' hlt
    rw [foldl_drop hp] at hM
    obtain ⟨_, _, hs⟩ := ok_prod hok hpm
    have hb : p.body.length ≤ 9223372036854775807 := (hw4 p hpm).2.2.1
    (repeat (first | (refine DW_seq fun K hK => ?_) | (refine DW_r anWR478 Try.mixed (by kernel_rfl) ?_; simp [hnt, Try.ntmps78, Try.results78, anWR478, dCnf, dProd, hlt, hp']; try simp (disch := omega) only [wrap64_in]) | (refine DW_block ?_) | (focus (refine DW_if ?_ ?_ ?_; (· (simp [hnt, Try.ntmps78, Try.results78, anWR478, dCnf, dProd, hlt, hp']; done)); (try (rotate_left; (· (intro hc; (try simp [hnt, Try.ntmps78, Try.results78, anWR478, dCnf, dProd, hlt, hp'] at hc); done)))))) | (refine DW_ret ?_; simp [hnt, Try.ntmps78, Try.results78, anWR478, dCnf, dProd, hlt, hp']) | (refine DW_exit ?_; simp [hnt, Try.ntmps78, Try.results78, anWR478, dCnf, dProd, hlt, hp']) | (refine DW_skip ?_; simp [hnt, Try.ntmps78, Try.results78, anWR478, dCnf, dProd, hlt, hp']) | (intro hc; (try simp [hnt, Try.ntmps78, Try.results78, anWR478, dCnf, dProd, hlt, hp'] at hc); done) | (intro hc; (try simp [hnt, Try.ntmps78, Try.results78, anWR478, dCnf, dProd, hlt, hp'] at hc); (first | (exfalso; omega) | skip)) | (refine ⟨?_, ?_⟩; · omega) | omega | apply_assumption -exfalso -symm | (exfalso; omega)))
    have hM2 : M = (c.prods.drop (k + 1)).foldl mostP (p.body.foldl stepM m) := hM
    refine DW_loop (X := {x : Nat × Int // x.1 ≤ p.body.length ∧ M = (c.prods.drop (k + 1)).foldl mostP ((p.body.drop x.1).foldl stepM x.2)}) (fun x => ⟨[(1, .ref [.int .i64 c.nts, dProds c.prods]), (3, .int .i64 x.1.2), (4, .int .i64 k), (5, .int .i64 x.1.1)], []⟩) (fun x => p.body.length - x.1.1) ⟨(0, m), by simp, by simpa using hM2⟩ (Sub.lit (by simp)) ?_
    clear hM hM2
    rintro ⟨⟨j, m⟩, hj, hM⟩
    simp only at hj hM ⊢
    by_cases hlj : j < p.body.length
    · obtain ⟨s, hs1, hs', hsm⟩ := at_lt' hlj
      obtain ⟨hn0, hn1, _⟩ := hs s hsm
      rw [foldl_drop hs1] at hM
      cases hl : s.label
      · have hst : stepM m s = m := by simp [stepM, hl]
        rw [hst] at hM
        (repeat (first | (refine DW_seq fun K hK => ?_) | (refine DW_r anWR478 Try.mixed (by kernel_rfl) ?_; simp [hnt, Try.ntmps78, Try.results78, anWR478, dCnf, dProd, dSym, hlt, hp', hlj, hs', hl]; try simp (disch := omega) only [wrap64_in]) | (refine DW_block ?_) | (focus (refine DW_if ?_ ?_ ?_; (· (simp [hnt, Try.ntmps78, Try.results78, anWR478, dCnf, dProd, dSym, hlt, hp', hlj, hs', hl]; done)); (try (rotate_left; (· (intro hc; (try simp [hnt, Try.ntmps78, Try.results78, anWR478, dCnf, dProd, dSym, hlt, hp', hlj, hs', hl] at hc); done)))))) | (refine DW_ret ?_; simp [hnt, Try.ntmps78, Try.results78, anWR478, dCnf, dProd, dSym, hlt, hp', hlj, hs', hl]) | (refine DW_exit ?_; simp [hnt, Try.ntmps78, Try.results78, anWR478, dCnf, dProd, dSym, hlt, hp', hlj, hs', hl]) | (refine DW_skip ?_; simp [hnt, Try.ntmps78, Try.results78, anWR478, dCnf, dProd, dSym, hlt, hp', hlj, hs', hl]) | (intro hc; (try simp [hnt, Try.ntmps78, Try.results78, anWR478, dCnf, dProd, dSym, hlt, hp', hlj, hs', hl] at hc); done) | (intro hc; (try simp [hnt, Try.ntmps78, Try.results78, anWR478, dCnf, dProd, dSym, hlt, hp', hlj, hs', hl] at hc); (first | (exfalso; omega) | skip)) | (refine ⟨?_, ?_⟩; · omega) | omega | apply_assumption -exfalso -symm | (exfalso; omega)))
        refine Again.mk ⟨(j + 1, m), show j + 1 ≤ _ ∧ _ from ⟨by omega, hM⟩⟩ (Sub.lit (by simp)) (by simp; omega)
        (repeat (first | (refine DW_seq fun K hK => ?_) | (refine DW_r anWR478 Try.mixed (by kernel_rfl) ?_; simp [hnt, Try.ntmps78, Try.results78, anWR478]; try simp (disch := omega) only [wrap64_in]) | (refine DW_block ?_) | (focus (refine DW_if ?_ ?_ ?_; (· (simp [hnt, Try.ntmps78, Try.results78, anWR478]; done)); (try (rotate_left; (· (intro hc; (try simp [hnt, Try.ntmps78, Try.results78, anWR478] at hc); done)))))) | (refine DW_ret ?_; simp [hnt, Try.ntmps78, Try.results78, anWR478]) | (refine DW_exit ?_; simp [hnt, Try.ntmps78, Try.results78, anWR478]) | (refine DW_skip ?_; simp [hnt, Try.ntmps78, Try.results78, anWR478]) | (intro hc; (try simp [hnt, Try.ntmps78, Try.results78, anWR478] at hc); done) | (intro hc; (try simp [hnt, Try.ntmps78, Try.results78, anWR478] at hc); (first | (exfalso; omega) | skip)) | (refine ⟨?_, ?_⟩; · omega) | omega | apply_assumption -exfalso -symm | (exfalso; omega)))
      · have hn1 := hn1 hl
        by_cases hge : m ≤ s.n
        · have hst : stepM m s = s.n + 1 := by simp [stepM, hl]; omega
          rw [hst] at hM
          (repeat (first | (refine DW_seq fun K hK => ?_) | (refine DW_r anWR478 Try.mixed (by kernel_rfl) ?_; simp [hnt, Try.ntmps78, Try.results78, anWR478, dCnf, dProd, dSym, hlt, hp', hlj, hs', hl, hge]; try simp (disch := omega) only [wrap64_in]) | (refine DW_block ?_) | (focus (refine DW_if ?_ ?_ ?_; (· (simp [hnt, Try.ntmps78, Try.results78, anWR478, dCnf, dProd, dSym, hlt, hp', hlj, hs', hl, hge]; done)); (try (rotate_left; (· (intro hc; (try simp [hnt, Try.ntmps78, Try.results78, anWR478, dCnf, dProd, dSym, hlt, hp', hlj, hs', hl, hge] at hc); done)))))) | (refine DW_ret ?_; simp [hnt, Try.ntmps78, Try.results78, anWR478, dCnf, dProd, dSym, hlt, hp', hlj, hs', hl, hge]) | (refine DW_exit ?_; simp [hnt, Try.ntmps78, Try.results78, anWR478, dCnf, dProd, dSym, hlt, hp', hlj, hs', hl, hge]) | (refine DW_skip ?_; simp [hnt, Try.ntmps78, Try.results78, anWR478, dCnf, dProd, dSym, hlt, hp', hlj, hs', hl, hge]) | (intro hc; (try simp [hnt, Try.ntmps78, Try.results78, anWR478, dCnf, dProd, dSym, hlt, hp', hlj, hs', hl, hge] at hc); done) | (intro hc; (try simp [hnt, Try.ntmps78, Try.results78, anWR478, dCnf, dProd, dSym, hlt, hp', hlj, hs', hl, hge] at hc); (first | (exfalso; omega) | skip)) | (refine ⟨?_, ?_⟩; · omega) | omega | apply_assumption -exfalso -symm | (exfalso; omega)))
          refine Again.mk ⟨(j + 1, s.n + 1), show j + 1 ≤ _ ∧ _ from ⟨by omega, hM⟩⟩ (Sub.lit (by simp)) (by simp; omega)
          (repeat (first | (refine DW_seq fun K hK => ?_) | (refine DW_r anWR478 Try.mixed (by kernel_rfl) ?_; simp [hnt, Try.ntmps78, Try.results78, anWR478]; try simp (disch := omega) only [wrap64_in]) | (refine DW_block ?_) | (focus (refine DW_if ?_ ?_ ?_; (· (simp [hnt, Try.ntmps78, Try.results78, anWR478]; done)); (try (rotate_left; (· (intro hc; (try simp [hnt, Try.ntmps78, Try.results78, anWR478] at hc); done)))))) | (refine DW_ret ?_; simp [hnt, Try.ntmps78, Try.results78, anWR478]) | (refine DW_exit ?_; simp [hnt, Try.ntmps78, Try.results78, anWR478]) | (refine DW_skip ?_; simp [hnt, Try.ntmps78, Try.results78, anWR478]) | (intro hc; (try simp [hnt, Try.ntmps78, Try.results78, anWR478] at hc); done) | (intro hc; (try simp [hnt, Try.ntmps78, Try.results78, anWR478] at hc); (first | (exfalso; omega) | skip)) | (refine ⟨?_, ?_⟩; · omega) | omega | apply_assumption -exfalso -symm | (exfalso; omega)))
        · have hst : stepM m s = m := by simp [stepM, hl]; omega
          rw [hst] at hM
          (repeat (first | (refine DW_seq fun K hK => ?_) | (refine DW_r anWR478 Try.mixed (by kernel_rfl) ?_; simp [hnt, Try.ntmps78, Try.results78, anWR478, dCnf, dProd, dSym, hlt, hp', hlj, hs', hl, hge]; try simp (disch := omega) only [wrap64_in]) | (refine DW_block ?_) | (focus (refine DW_if ?_ ?_ ?_; (· (simp [hnt, Try.ntmps78, Try.results78, anWR478, dCnf, dProd, dSym, hlt, hp', hlj, hs', hl, hge]; done)); (try (rotate_left; (· (intro hc; (try simp [hnt, Try.ntmps78, Try.results78, anWR478, dCnf, dProd, dSym, hlt, hp', hlj, hs', hl, hge] at hc); done)))))) | (refine DW_ret ?_; simp [hnt, Try.ntmps78, Try.results78, anWR478, dCnf, dProd, dSym, hlt, hp', hlj, hs', hl, hge]) | (refine DW_exit ?_; simp [hnt, Try.ntmps78, Try.results78, anWR478, dCnf, dProd, dSym, hlt, hp', hlj, hs', hl, hge]) | (refine DW_skip ?_; simp [hnt, Try.ntmps78, Try.results78, anWR478, dCnf, dProd, dSym, hlt, hp', hlj, hs', hl, hge]) | (intro hc; (try simp [hnt, Try.ntmps78, Try.results78, anWR478, dCnf, dProd, dSym, hlt, hp', hlj, hs', hl, hge] at hc); done) | (intro hc; (try simp [hnt, Try.ntmps78, Try.results78, anWR478, dCnf, dProd, dSym, hlt, hp', hlj, hs', hl, hge] at hc); (first | (exfalso; omega) | skip)) | (refine ⟨?_, ?_⟩; · omega) | omega | apply_assumption -exfalso -symm | (exfalso; omega)))
          refine Again.mk ⟨(j + 1, m), show j + 1 ≤ _ ∧ _ from ⟨by omega, hM⟩⟩ (Sub.lit (by simp)) (by simp; omega)
          (repeat (first | (refine DW_seq fun K hK => ?_) | (refine DW_r anWR478 Try.mixed (by kernel_rfl) ?_; simp [hnt, Try.ntmps78, Try.results78, anWR478]; try simp (disch := omega) only [wrap64_in]) | (refine DW_block ?_) | (focus (refine DW_if ?_ ?_ ?_; (· (simp [hnt, Try.ntmps78, Try.results78, anWR478]; done)); (try (rotate_left; (· (intro hc; (try simp [hnt, Try.ntmps78, Try.results78, anWR478] at hc); done)))))) | (refine DW_ret ?_; simp [hnt, Try.ntmps78, Try.results78, anWR478]) | (refine DW_exit ?_; simp [hnt, Try.ntmps78, Try.results78, anWR478]) | (refine DW_skip ?_; simp [hnt, Try.ntmps78, Try.results78, anWR478]) | (intro hc; (try simp [hnt, Try.ntmps78, Try.results78, anWR478] at hc); done) | (intro hc; (try simp [hnt, Try.ntmps78, Try.results78, anWR478] at hc); (first | (exfalso; omega) | skip)) | (refine ⟨?_, ?_⟩; · omega) | omega | apply_assumption -exfalso -symm | (exfalso; omega)))
    · have hjj : j = p.body.length := by omega
      subst hjj
      rw [List.drop_length] at hM
      simp only [List.foldl_nil] at hM
      (repeat (first | (refine DW_seq fun K hK => ?_) | (refine DW_r anWR478 Try.mixed (by kernel_rfl) ?_; simp [hnt, Try.ntmps78, Try.results78, anWR478, dCnf, dProd, hlt, hp']; try simp (disch := omega) only [wrap64_in]) | (refine DW_block ?_) | (focus (refine DW_if ?_ ?_ ?_; (· (simp [hnt, Try.ntmps78, Try.results78, anWR478, dCnf, dProd, hlt, hp']; done)); (try (rotate_left; (· (intro hc; (try simp [hnt, Try.ntmps78, Try.results78, anWR478, dCnf, dProd, hlt, hp'] at hc); done)))))) | (refine DW_ret ?_; simp [hnt, Try.ntmps78, Try.results78, anWR478, dCnf, dProd, hlt, hp']) | (refine DW_exit ?_; simp [hnt, Try.ntmps78, Try.results78, anWR478, dCnf, dProd, hlt, hp']) | (refine DW_skip ?_; simp [hnt, Try.ntmps78, Try.results78, anWR478, dCnf, dProd, hlt, hp']) | (intro hc; (try simp [hnt, Try.ntmps78, Try.results78, anWR478, dCnf, dProd, hlt, hp'] at hc); done) | (intro hc; (try simp [hnt, Try.ntmps78, Try.results78, anWR478, dCnf, dProd, hlt, hp'] at hc); (first | (exfalso; omega) | skip)) | (refine ⟨?_, ?_⟩; · omega) | omega | apply_assumption -exfalso -symm | (exfalso; omega)))
      refine Again.mk ⟨(k + 1, m), show k + 1 ≤ _ ∧ _ from ⟨by omega, hM⟩⟩ (Sub.lit (by simp)) (by simp; omega)
      (repeat (first | (refine DW_seq fun K hK => ?_) | (refine DW_r anWR478 Try.mixed (by kernel_rfl) ?_; simp [hnt, Try.ntmps78, Try.results78, anWR478]; try simp (disch := omega) only [wrap64_in]) | (refine DW_block ?_) | (focus (refine DW_if ?_ ?_ ?_; (· (simp [hnt, Try.ntmps78, Try.results78, anWR478]; done)); (try (rotate_left; (· (intro hc; (try simp [hnt, Try.ntmps78, Try.results78, anWR478] at hc); done)))))) | (refine DW_ret ?_; simp [hnt, Try.ntmps78, Try.results78, anWR478]) | (refine DW_exit ?_; simp [hnt, Try.ntmps78, Try.results78, anWR478]) | (refine DW_skip ?_; simp [hnt, Try.ntmps78, Try.results78, anWR478]) | (intro hc; (try simp [hnt, Try.ntmps78, Try.results78, anWR478] at hc); done) | (intro hc; (try simp [hnt, Try.ntmps78, Try.results78, anWR478] at hc); (first | (exfalso; omega) | skip)) | (refine ⟨?_, ?_⟩; · omega) | omega | apply_assumption -exfalso -symm | (exfalso; omega)))
  · have hkk : k = c.prods.length := by omega
    subst hkk
    rw [List.drop_length] at hM
    simp only [List.foldl_nil] at hM
    subst hM
    (repeat (first | (refine DW_seq fun K hK => ?_) | (refine DW_r anWR478 Try.mixed (by kernel_rfl) ?_; simp [hnt, Try.ntmps78, Try.results78, anWR478, dCnf]; try simp (disch := omega) only [wrap64_in]) | (refine DW_block ?_) | (focus (refine DW_if ?_ ?_ ?_; (· (simp [hnt, Try.ntmps78, Try.results78, anWR478, dCnf]; done)); (try (rotate_left; (· (intro hc; (try simp [hnt, Try.ntmps78, Try.results78, anWR478, dCnf] at hc); done)))))) | (refine DW_ret ?_; simp [hnt, Try.ntmps78, Try.results78, anWR478, dCnf]) | (refine DW_exit ?_; simp [hnt, Try.ntmps78, Try.results78, anWR478, dCnf]) | (refine DW_skip ?_; simp [hnt, Try.ntmps78, Try.results78, anWR478, dCnf]) | (intro hc; (try simp [hnt, Try.ntmps78, Try.results78, anWR478, dCnf] at hc); done) | (intro hc; (try simp [hnt, Try.ntmps78, Try.results78, anWR478, dCnf] at hc); (first | (exfalso; omega) | skip)) | (refine ⟨?_, ?_⟩; · omega) | omega | apply_assumption -exfalso -symm | (exfalso; omega)))

/-- a symbol's node -/
def txtAt (l : List ByteArray) (n : Int) : ByteArray := l[n.toNat]?.getD ⟨#[]⟩
def ndOf (ns ls : List ByteArray) (s : Sym) : Nd := if s.label then ⟨3, txtAt ls s.n, 0⟩ else ⟨2, txtAt ns s.n, 0⟩
theorem txtAt_lt {l : List ByteArray} {k : Nat} (h : k < l.length) : l[k] = txtAt l (k : Int) ∧ l[k]? = some (txtAt l (k : Int)) := by
  unfold txtAt
  simp [h]
def anWR477 : Ann := ⟨[], []⟩
theorem rules1_pure (ns ls : List ByteArray) (s : Sym) (h0 : 0 ≤ s.n) (h1 : s.label = true → s.n < ls.length) (h2 : s.label = false → s.n < ns.length) : DPure Try.prog 77 [.agg [.bool s.label, .int .i64 s.n], .ref [dStrs ls], .ref [dStrs ns]] (.agg [.int .i64 (ndOf ns ls s).k, .str (ndOf ns ls s).s, .int .i64 0]) := by
  refine DPure_introF [] (fn := Try.f77) Try.func77 rfl Try.call77 (by simp [Try.ntmps77]) (by simp [mx]) ?_
  intro hwf B hnt
  clear hwf
  obtain ⟨b, n⟩ := s
  simp only at h0 h1 h2
  obtain ⟨j, rfl⟩ := Int.eq_ofNat_of_zero_le h0
  simp only [argS]
  cases b
  · have h2 := h2 rfl
    have h2' : j < ns.length := by omega
    obtain ⟨g1, g2⟩ := txtAt_lt h2'
    (repeat (first | (refine DW_seq fun K hK => ?_) | (refine DW_r anWR477 Try.mixed (by kernel_rfl) ?_; simp [hnt, Try.ntmps77, Try.results77, anWR477, ndOf, h2', g1, g2, dStr]; try simp (disch := omega) only [wrap64_in]) | (refine DW_block ?_) | (focus (refine DW_if ?_ ?_ ?_; (· (simp [hnt, Try.ntmps77, Try.results77, anWR477, ndOf, h2', g1, g2, dStr]; done)); (try (rotate_left; (· (intro hc; (try simp [hnt, Try.ntmps77, Try.results77, anWR477, ndOf, h2', g1, g2, dStr] at hc); done)))))) | (refine DW_ret ?_; simp [hnt, Try.ntmps77, Try.results77, anWR477, ndOf, h2', g1, g2, dStr]) | (refine DW_exit ?_; simp [hnt, Try.ntmps77, Try.results77, anWR477, ndOf, h2', g1, g2, dStr]) | (refine DW_skip ?_; simp [hnt, Try.ntmps77, Try.results77, anWR477, ndOf, h2', g1, g2, dStr]) | (intro hc; (try simp [hnt, Try.ntmps77, Try.results77, anWR477, ndOf, h2', g1, g2, dStr] at hc); done) | (intro hc; (try simp [hnt, Try.ntmps77, Try.results77, anWR477, ndOf, h2', g1, g2, dStr] at hc); (first | (exfalso; omega) | skip)) | (refine ⟨?_, ?_⟩; · omega) | omega | apply_assumption -exfalso -symm | (exfalso; omega)))
  · have h1 := h1 rfl
    have h1' : j < ls.length := by omega
    obtain ⟨g1, g2⟩ := txtAt_lt h1'
    (repeat (first | (refine DW_seq fun K hK => ?_) | (refine DW_r anWR477 Try.mixed (by kernel_rfl) ?_; simp [hnt, Try.ntmps77, Try.results77, anWR477, ndOf, h1', g1, g2, dStr]; try simp (disch := omega) only [wrap64_in]) | (refine DW_block ?_) | (focus (refine DW_if ?_ ?_ ?_; (· (simp [hnt, Try.ntmps77, Try.results77, anWR477, ndOf, h1', g1, g2, dStr]; done)); (try (rotate_left; (· (intro hc; (try simp [hnt, Try.ntmps77, Try.results77, anWR477, ndOf, h1', g1, g2, dStr] at hc); done)))))) | (refine DW_ret ?_; simp [hnt, Try.ntmps77, Try.results77, anWR477, ndOf, h1', g1, g2, dStr]) | (refine DW_exit ?_; simp [hnt, Try.ntmps77, Try.results77, anWR477, ndOf, h1', g1, g2, dStr]) | (refine DW_skip ?_; simp [hnt, Try.ntmps77, Try.results77, anWR477, ndOf, h1', g1, g2, dStr]) | (intro hc; (try simp [hnt, Try.ntmps77, Try.results77, anWR477, ndOf, h1', g1, g2, dStr] at hc); done) | (intro hc; (try simp [hnt, Try.ntmps77, Try.results77, anWR477, ndOf, h1', g1, g2, dStr] at hc); (first | (exfalso; omega) | skip)) | (refine ⟨?_, ?_⟩; · omega) | omega | apply_assumption -exfalso -symm | (exfalso; omega)))
end Go.Proofs.Ytihkcegelghcpaa
end

