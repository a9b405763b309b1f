/- Parts of a proof, laid together: RY4, WE0, WR2, WR3, BN3, BN4, SY0, WB14, BN2, BN5, BN6, BN7, SY1. -/
import Derived.Shelf.SlIter.Nil
import Derived.Shelf.SlIter.Sorted
import Derived.Shelf.SortM.Plain
import Derived.Shelf.SortM.SortNone
import Derived.Test.YtdgocjbakjamaaaGreatqSh4
import Derived.Test.YtdgocjbakjamaaaGreatqSh5
import Derived.Test.YtdgocjbakjamaaaGreatqSh6
import Derived.Test.YtdgocjbakjamaaaGreatqSh7
section
set_option linter.unusedSectionVars false
/- regular expressions by definition: texts, bounds, Check, places -/



set_option linter.unusedSimpArgs false
set_option linter.unusedVariables false
namespace Go.Proofs.YtdgocjbakjamaaaGreat
open Go Go.Dm
variable [DMode]
attribute [local irreducible] DW callP callS
set_option maxRecDepth 100000

theorem okL_take {ks : List RT} (h : okL ks = true) (i : Nat) : okL (ks.take i) = true := by
 have := okL_app (ks.take i) (ks.drop i)
 rw [List.take_append_drop, h] at this
 simpa using (by simpa using this.symm : okL (ks.take i) = true ∧ okL (ks.drop i) = true).1
def accT (x : Nd) (ks : List RT) (i : Nat) : ByteArray := if i = 0 then x.s else joinB (txtL x.k (ks.take i)) (btw x.k)
theorem accT_zero (x : Nd) (ks : List RT) : accT x ks 0 = x.s := rfl
theorem accT_one {x : Nd} {ks : List RT} {u : RT} (h : ks[0]? = some u) : accT x ks 1 = parT x.k u.x.k (txtT u) := by
 unfold accT
 rw [if_neg (by omega), show ks.take 1 = [u] by rw [List.take_add_one, h]; simp, txtL_cons, txtL_nil]
 rfl
theorem accT_succ {x : Nd} {ks : List RT} {i : Nat} {u : RT} (hi : 0 < i) (h : ks[i]? = some u) : accT x ks (i + 1) = accT x ks i ++ btw x.k ++ parT x.k u.x.k (txtT u) := by
 unfold accT
 rw [if_neg (by omega), if_neg (by omega), txtL_take h]
 obtain ⟨hl, _⟩ := List.getElem?_eq_some_iff.1 h
 have hne : txtL x.k (ks.take i) ≠ [] := fun e => by
  have := congrArg List.length e
  rw [txtL_len, List.length_take] at this
  simp only [List.length_nil] at this
  omega
 cases hx : txtL x.k (ks.take i) with
 | nil => exact absurd hx hne
 | cons y r =>
  show (r ++ [_]).foldl (joinF (btw x.k)) y = _
  rw [List.foldl_append]
  rfl
theorem accT_size {x : Nd} {ks : List RT} (hok : okL ks = true) (hs : x.s.size ≤ 16) (i : Nat) : (accT x ks i).size ≤ 16 + 24 * (flatL ks).length := by
 unfold accT
 split
 ·omega
 ·have h1 := joinB_size (txtL x.k (ks.take i)) (btw x.k) (btw_size _)
  have h2 := (txt_sizeL x.k (ks.take i) (okL_take hok i)).1
  have h3 := flatL_take_le ks i
  omega
theorem empty_s {x : Nd} (h : mayN x = true) (h2 : ¬ (x.k = 2 ∨ x.k = 3)) : x.s = ⟨#[]⟩ := by
 unfold mayN emp at h
 rw [if_neg (fun e => h2 (.inl e)), if_neg (fun e => h2 (.inr e))] at h
 repeat' split at h
 all_goals simp only [Bool.and_eq_true, decide_eq_true_eq, Bool.false_eq_true] at h
 all_goals first | exact h.1 | (exact absurd h (by simp))
theorem str_app0r (x : ByteArray) : x ++ (⟨#[]⟩ : ByteArray) = x := by
 apply bytes_ext
 simp [ByteArray.data_append]

def anRY4162 : Ann := ⟨[], []⟩
set_option maxHeartbeats 8000000 in
theorem textAt_pure : ∀ (n : Nat) (t : RT) (l : List Nd) (p : Nat), (flat t).length = n → At l p t → l.length ≤ 1310720 → DPure Tryz.prog 162 [dNds l, .int .i64 p] (.str (txtT t)) := by
 intro n
 induction n using Nat.strongRecOn with
 | ind n ih =>
 intro t l p hn ht hs
 obtain ⟨x, ks⟩ := t
 have kk := kids81_pure l p x ks ht hs
 obtain ⟨hm, hkn, hok⟩ := okT_mk ht.ok
 obtain ⟨g0, gl, ge⟩ := ht.head
 simp only [RT.x] at g0
 have g0' : l[p]'gl = x := (List.getElem?_eq_some_iff.1 g0).2
 have hfl : (flat (.mk x ks)).length = (flatL ks).length + 1 := by rw [flat_mk, List.length_cons]
 have hkl := flatL_len ks
 have hk9 : ks.length ≤ 1310720 := by omega
 have hch : ∀ i u, ks[i]? = some u → DPure Tryz.prog 162 [dNds l, .int .i64 (kidP p ks i)] (.str (txtT u)) ∧ l[kidP p ks i]? = some u.x ∧ (txtT u).size ≤ 31457280 := fun i u hu => by
  have hm := flatL_mem (List.mem_of_getElem? hu)
  have hu2 := (ht.kid hu).1
  have h3 := (txt_sizeT u hu2.ok).2
  exact ⟨ih (flat u).length (by omega) u l _ rfl hu2 hs, hu2.head.1, by omega⟩
 have hrow : ∀ i, i < ks.length → _ := fun i h => kids_row (p := p) (ks := ks) (i := i) h
 have hacs := accT_size (x := x) hok (mayN_size hm)
 have hxs := mayN_size hm
 have hbig : 16 + 24 * (flatL ks).length ≤ 31457300 := by omega
 rw [txtT_mk]
 unfold kidsD at kk
 obtain ⟨D, hD⟩ : ∃ D, D = (List.range ks.length).map fun i => kidD (kidP p ks i) := ⟨_, rfl⟩
 have hDl : D.length = ks.length := by rw [hD]; simp
 have hDm : mxR D = 0 := by rw [hD]; exact mx_kids p ks _
 rw [← hD] at kk hrow
 have h6 : x.k = 6 ∨ x.k = 7 ∨ x.k = 8 → ks.length = 1 := fun h => by obtain ⟨u, rfl⟩ := one_kid ht.ok h; rfl
 have h8 : ¬ x.k = 1 → ¬ (x.k = 2 ∨ x.k = 3) → ¬ x.k = 5 → x.k = 4 ∨ x.k = 6 ∨ x.k = 7 ∨ x.k = 8 := fun a b c => by have := mayN_kind hm; omega
 have hlf : x.k = 2 ∨ x.k = 3 → ks.length = 0 := fun h => by rw [leaf_nil ht.ok h]; rfl
 have hpos : ¬ x.k = 1 → ¬ (x.k = 2 ∨ x.k = 3) → 1 ≤ ks.length := fun a b => by have := mayN_many hm a b; omega
 have hemp : ¬ (x.k = 2 ∨ x.k = 3) → x.s = ⟨#[]⟩ := empty_s hm
 clear hD ih ht ge hn hok hm
 have z0 : (⟨#[]⟩ : ByteArray).size = 0 := rfl
 have z1 : (⟨#[37]⟩ : ByteArray).size = 1 := rfl
 have z2 : (⟨#[32]⟩ : ByteArray).size = 1 := rfl
 have z3 : (⟨#[32, 124, 32]⟩ : ByteArray).size = 3 := rfl
 have z4 : (⟨#[40]⟩ : ByteArray).size = 1 := rfl
 have z5 : (⟨#[41]⟩ : ByteArray).size = 1 := rfl
 have z6 : (⟨#[42]⟩ : ByteArray).size = 1 := rfl
 have z7 : (⟨#[43]⟩ : ByteArray).size = 1 := rfl
 have z8 : (⟨#[63]⟩ : ByteArray).size = 1 := rfl
 have m1 : 1 ≤ maxLen := by decide
 have m3 : 3 ≤ maxLen := by decide
 have mbig : 100000000 ≤ maxLen := by decide
 refine DPure_introF [] (fn := Tryz.f162) Tryz.func162 rfl Tryz.call162 (by simp [Tryz.ntmps162]) (by simp [mx]) ?_
 intro hwf B hnt
 simp only [Tryz.ntmps162] at hnt
 have hA := an_is anRY4162 Tryz.mixed (aj2 @anRY4162.eq_1 Tryz.results162)
 clear hwf
 simp only [argS]
 by_cases k1 : x.k = 1
 ·rw [if_pos k1]
  exact go0 aj0 aj0 (aj7 @dNd.eq_1 g0 g0' gl z1 m1 k1)
 rw [if_neg k1]
 obtain ⟨R, hR⟩ : ∃ R, R = (if x.k = 2 ∨ x.k = 3 then x.s else joinB (txtL x.k ks) (btw x.k) ++ sgn x.k) := ⟨_, rfl⟩
 rw [← hR]
 have k1' : (x.k == 1) = false := by simpa using k1
 (refine go1 (aj1 kk) aj0 (aj6 @dNd.eq_1 g0 g0' gl k1 k1') ?_; intros; refine mk_i ?_)
 refine DW_loop (X := {i : Nat // i ≤ ks.length}) (fun i => ⟨[(0, dNds l), (5, .int .i64 x.k), (6, .str (accT x ks i.1)), (7, .sl 1 8 D), (8, .int .i64 i.1)], []⟩) (fun i => ks.length - i.1) ⟨0, by omega⟩ (Sub.lit (by simp [accT_zero, hDm])) ?_
 rintro ⟨i, hi⟩
 simp only
 by_cases hlt : i < ks.length
 ·have k2 : ¬ (x.k = 2 ∨ x.k = 3) := fun h => by have := hlf h; omega
  have hx0 := hemp k2
  obtain ⟨u, hu, hu', _⟩ := at_lt' hlt
  obtain ⟨e1, gu, hus⟩ := hch i u hu
  have hr := hrow i hlt
  have hltD : i < D.length := by omega
  have hwi : IntKind.i64.wrap ((i : Int) + 1) = (i : Int) + 1 := wrap64_in (by omega) (by omega)
  have hr' : D[i]'hltD = [.int .i64 (kidP p ks i : Int)] := (List.getElem?_eq_some_iff.1 hr).2
  have hac := hacs i
  obtain ⟨q, hq⟩ : ∃ q, q = kidP p ks i := ⟨_, rfl⟩
  rw [← hq] at e1 hr hr' gu
  have gq : q < l.length := (List.getElem?_eq_some_iff.1 gu).1
  have gu' : l[q]'gq = u.x := (List.getElem?_eq_some_iff.1 gu).2
  have hpt : parT x.k u.x.k (txtT u) = if parB x.k u.x.k then ⟨#[40]⟩ ++ txtT u ++ ⟨#[41]⟩ else txtT u := rfl
  have hnx : accT x ks (i + 1) = (if i = 0 then ⟨#[]⟩ else accT x ks i ++ btw x.k) ++ parT x.k u.x.k (txtT u) := by
   by_cases h0 : i = 0
   ·subst h0; rw [if_pos rfl, str_app0]; exact accT_one hu
   ·rw [if_neg h0]; exact accT_succ (by omega) hu
  have hz : i = 0 → accT x ks i = ⟨#[]⟩ := fun h => by rw [h, accT_zero, hx0]
  obtain ⟨s, hs2⟩ : ∃ s, s = txtT u := ⟨_, rfl⟩
  rw [← hs2] at e1 hus hpt hnx
  obtain ⟨P, hP⟩ : ∃ P, P = parT x.k u.x.k s := ⟨_, rfl⟩
  rw [← hP] at hpt hnx
  obtain ⟨a, ha⟩ : ∃ a, a = accT x ks i := ⟨_, rfl⟩
  rw [← ha] at hac hnx hz ⊢
  have y3 : 1 + s.size ≤ maxLen := by omega
  have y4 : 1 + s.size + 1 ≤ maxLen := by omega
  have y5 : a.size + 3 ≤ maxLen := by omega
  have y6 : a.size + 1 ≤ maxLen := by omega
  have y7 : a.size + P.size ≤ maxLen := by
   have := (parT_size x.k u.x.k s).2; rw [← hP] at this; omega
  have y8 : a.size + 3 + P.size ≤ maxLen := by
   have := (parT_size x.k u.x.k s).2; rw [← hP] at this; omega
  have y9 : a.size + 1 + P.size ≤ maxLen := by omega
  unfold parB at hpt
  clear hs2 ha hP
  unfold btw at hnx
  by_cases h0 : i = 0
  ·have hp0 : ¬ (0 : Int) < (i : Int) := by omega
   rw [if_pos h0, str_app0] at hnx
   have ha0 := hz h0
   subst ha0
   have w1 : ⟨#[]⟩ ++ P = P := str_app0 P
   have y7' : P.size ≤ maxLen := by omega
   by_cases p5 : u.x.k = 5
   ·simp [p5] at hpt
    subst hpt
    simp only [ByteArray.size_append, z4, z5] at y7'
    (repeat (first | refine DW_seq fun K hK => ?_ | (refine DW_r anRY4162 Tryz.mixed (by kernel_rfl) ?_; simp [anRY4162, hnt, dNd, gu, gu', gq, hltD, hDl, hwi, hr, hr', hlt, hp0, p5, z0, z4, z5, m1, y3, y4, y7', w1, ByteArray.size_append]; try simp (disch := omega) only [wrap64_in]) | refine DW_block ?_ | (refine DW_if ?_ ?_ ?_; (· (simp [hnt, dNd, gu, gu', gq, hltD, hDl, hwi, hr, hr', hlt, hp0, p5, z0, z4, z5, m1, y3, y4, y7', w1, ByteArray.size_append]; done)); (try (rotate_left; (· (intro hc; (try simp [hnt, dNd, gu, gu', gq, hltD, hDl, hwi, hr, hr', hlt, hp0, p5, z0, z4, z5, m1, y3, y4, y7', w1, ByteArray.size_append] at hc); done))))) | (refine DW_ret ?_; simp [Tryz.results162, hnt, dNd, gu, gu', gq, hltD, hDl, hwi, hr, hr', hlt, hp0, p5, z0, z4, z5, m1, y3, y4, y7', w1, ByteArray.size_append]) | ((first | refine DW_exit ?_ | refine DW_skip ?_); simp [hnt, dNd, gu, gu', gq, hltD, hDl, hwi, hr, hr', hlt, hp0, p5, z0, z4, z5, m1, y3, y4, y7', w1, ByteArray.size_append]) | (intro hc; (try simp [hnt, dNd, gu, gu', gq, hltD, hDl, hwi, hr, hr', hlt, hp0, p5, z0, z4, z5, m1, y3, y4, y7', w1, ByteArray.size_append] at hc); (try (exfalso; omega))) | ((first | refine callP_mk (e1) ?_ | (refine callP_wk (e1) ?_ ?_; (· (simp; done)))); try simp [hnt, dNd, gu, gu', gq, hltD, hDl, hwi, hr, hr', hlt, hp0, p5, z0, z4, z5, m1, y3, y4, y7', w1, ByteArray.size_append]) | (refine ⟨?_, ?_⟩; · omega) | omega | apply_assumption -exfalso -symm | (exfalso; omega)))
    refine Again.mk ⟨i + 1, by omega⟩ (Sub.lit (by simp [hnx, hDm])) (by simp; omega)
    skip
   ·have p5' : (u.x.k == 5) = false := by simpa using p5
    by_cases p4 : u.x.k = 4
    ·by_cases q5 : x.k = 5
     ·simp [p4, q5] at hpt
      subst hpt
      (repeat (first | refine DW_seq fun K hK => ?_ | (refine DW_r anRY4162 Tryz.mixed (by kernel_rfl) ?_; simp [anRY4162, hnt, dNd, gu, gu', gq, hltD, hDl, hwi, hr, hr', hlt, hp0, p4, p5, p5', q5, z0, z4, z5, m1, y3, y4, y7', w1, ByteArray.size_append]; try simp (disch := omega) only [wrap64_in]) | refine DW_block ?_ | (refine DW_if ?_ ?_ ?_; (· (simp [hnt, dNd, gu, gu', gq, hltD, hDl, hwi, hr, hr', hlt, hp0, p4, p5, p5', q5, z0, z4, z5, m1, y3, y4, y7', w1, ByteArray.size_append]; done)); (try (rotate_left; (· (intro hc; (try simp [hnt, dNd, gu, gu', gq, hltD, hDl, hwi, hr, hr', hlt, hp0, p4, p5, p5', q5, z0, z4, z5, m1, y3, y4, y7', w1, ByteArray.size_append] at hc); done))))) | (refine DW_ret ?_; simp [Tryz.results162, hnt, dNd, gu, gu', gq, hltD, hDl, hwi, hr, hr', hlt, hp0, p4, p5, p5', q5, z0, z4, z5, m1, y3, y4, y7', w1, ByteArray.size_append]) | ((first | refine DW_exit ?_ | refine DW_skip ?_); simp [hnt, dNd, gu, gu', gq, hltD, hDl, hwi, hr, hr', hlt, hp0, p4, p5, p5', q5, z0, z4, z5, m1, y3, y4, y7', w1, ByteArray.size_append]) | (intro hc; (try simp [hnt, dNd, gu, gu', gq, hltD, hDl, hwi, hr, hr', hlt, hp0, p4, p5, p5', q5, z0, z4, z5, m1, y3, y4, y7', w1, ByteArray.size_append] at hc); (try (exfalso; omega))) | ((first | refine callP_mk (e1) ?_ | (refine callP_wk (e1) ?_ ?_; (· (simp; done)))); try simp [hnt, dNd, gu, gu', gq, hltD, hDl, hwi, hr, hr', hlt, hp0, p4, p5, p5', q5, z0, z4, z5, m1, y3, y4, y7', w1, ByteArray.size_append]) | (refine ⟨?_, ?_⟩; · omega) | omega | apply_assumption -exfalso -symm | (exfalso; omega)))
      refine Again.mk ⟨i + 1, by omega⟩ (Sub.lit (by simp [hnx, hDm, q5])) (by simp; omega)
      skip
     ·have q5' : (x.k == 5) = false := by simpa using q5
      simp [p4, q5] at hpt
      subst hpt
      simp only [ByteArray.size_append, z4, z5] at y7'
      (repeat (first | refine DW_seq fun K hK => ?_ | (refine DW_r anRY4162 Tryz.mixed (by kernel_rfl) ?_; simp [anRY4162, hnt, dNd, gu, gu', gq, hltD, hDl, hwi, hr, hr', hlt, hp0, p4, p5, p5', q5, q5', z0, z4, z5, m1, y3, y4, y7', w1, ByteArray.size_append]; try simp (disch := omega) only [wrap64_in]) | refine DW_block ?_ | (refine DW_if ?_ ?_ ?_; (· (simp [hnt, dNd, gu, gu', gq, hltD, hDl, hwi, hr, hr', hlt, hp0, p4, p5, p5', q5, q5', z0, z4, z5, m1, y3, y4, y7', w1, ByteArray.size_append]; done)); (try (rotate_left; (· (intro hc; (try simp [hnt, dNd, gu, gu', gq, hltD, hDl, hwi, hr, hr', hlt, hp0, p4, p5, p5', q5, q5', z0, z4, z5, m1, y3, y4, y7', w1, ByteArray.size_append] at hc); done))))) | (refine DW_ret ?_; simp [Tryz.results162, hnt, dNd, gu, gu', gq, hltD, hDl, hwi, hr, hr', hlt, hp0, p4, p5, p5', q5, q5', z0, z4, z5, m1, y3, y4, y7', w1, ByteArray.size_append]) | ((first | refine DW_exit ?_ | refine DW_skip ?_); simp [hnt, dNd, gu, gu', gq, hltD, hDl, hwi, hr, hr', hlt, hp0, p4, p5, p5', q5, q5', z0, z4, z5, m1, y3, y4, y7', w1, ByteArray.size_append]) | (intro hc; (try simp [hnt, dNd, gu, gu', gq, hltD, hDl, hwi, hr, hr', hlt, hp0, p4, p5, p5', q5, q5', z0, z4, z5, m1, y3, y4, y7', w1, ByteArray.size_append] at hc); (try (exfalso; omega))) | ((first | refine callP_mk (e1) ?_ | (refine callP_wk (e1) ?_ ?_; (· (simp; done)))); try simp [hnt, dNd, gu, gu', gq, hltD, hDl, hwi, hr, hr', hlt, hp0, p4, p5, p5', q5, q5', z0, z4, z5, m1, y3, y4, y7', w1, ByteArray.size_append]) | (refine ⟨?_, ?_⟩; · omega) | omega | apply_assumption -exfalso -symm | (exfalso; omega)))
      refine Again.mk ⟨i + 1, by omega⟩ (Sub.lit (by simp [hnx, hDm])) (by simp; omega)
      skip
    ·have p4' : (u.x.k == 4) = false := by simpa using p4
     simp [p4, p5] at hpt
     subst hpt
     (repeat (first | refine DW_seq fun K hK => ?_ | (refine DW_r anRY4162 Tryz.mixed (by kernel_rfl) ?_; simp [anRY4162, hnt, dNd, gu, gu', gq, hltD, hDl, hwi, hr, hr', hlt, hp0, p4, p4', p5, p5', z0, z4, z5, m1, y3, y4, y7', w1, ByteArray.size_append]; try simp (disch := omega) only [wrap64_in]) | refine DW_block ?_ | (refine DW_if ?_ ?_ ?_; (· (simp [hnt, dNd, gu, gu', gq, hltD, hDl, hwi, hr, hr', hlt, hp0, p4, p4', p5, p5', z0, z4, z5, m1, y3, y4, y7', w1, ByteArray.size_append]; done)); (try (rotate_left; (· (intro hc; (try simp [hnt, dNd, gu, gu', gq, hltD, hDl, hwi, hr, hr', hlt, hp0, p4, p4', p5, p5', z0, z4, z5, m1, y3, y4, y7', w1, ByteArray.size_append] at hc); done))))) | (refine DW_ret ?_; simp [Tryz.results162, hnt, dNd, gu, gu', gq, hltD, hDl, hwi, hr, hr', hlt, hp0, p4, p4', p5, p5', z0, z4, z5, m1, y3, y4, y7', w1, ByteArray.size_append]) | ((first | refine DW_exit ?_ | refine DW_skip ?_); simp [hnt, dNd, gu, gu', gq, hltD, hDl, hwi, hr, hr', hlt, hp0, p4, p4', p5, p5', z0, z4, z5, m1, y3, y4, y7', w1, ByteArray.size_append]) | (intro hc; (try simp [hnt, dNd, gu, gu', gq, hltD, hDl, hwi, hr, hr', hlt, hp0, p4, p4', p5, p5', z0, z4, z5, m1, y3, y4, y7', w1, ByteArray.size_append] at hc); (try (exfalso; omega))) | ((first | refine callP_mk (e1) ?_ | (refine callP_wk (e1) ?_ ?_; (· (simp; done)))); try simp [hnt, dNd, gu, gu', gq, hltD, hDl, hwi, hr, hr', hlt, hp0, p4, p4', p5, p5', z0, z4, z5, m1, y3, y4, y7', w1, ByteArray.size_append]) | (refine ⟨?_, ?_⟩; · omega) | omega | apply_assumption -exfalso -symm | (exfalso; omega)))
     refine Again.mk ⟨i + 1, by omega⟩ (Sub.lit (by simp [hnx, hDm])) (by simp; omega)
     skip
  ·have hp0 : (0 : Int) < (i : Int) := by omega
   rw [if_neg h0] at hnx
   clear hz
   by_cases q5 : x.k = 5
   ·rw [if_pos q5] at hnx
    have q4' : (x.k == 4) = false := by simp [q5]
    by_cases p5 : u.x.k = 5
    ·simp [p5] at hpt
     subst hpt
     simp only [ByteArray.size_append, z4, z5] at y8
     (repeat (first | refine DW_seq fun K hK => ?_ | (refine DW_r anRY4162 Tryz.mixed (by kernel_rfl) ?_; simp [anRY4162, hnt, dNd, gu, gu', gq, hltD, hDl, hwi, hr, hr', hlt, hp0, p5, q5, q4', z0, z3, z4, z5, m1, m3, y3, y4, y5, y8, ByteArray.size_append]; try simp (disch := omega) only [wrap64_in]) | refine DW_block ?_ | (refine DW_if ?_ ?_ ?_; (· (simp [hnt, dNd, gu, gu', gq, hltD, hDl, hwi, hr, hr', hlt, hp0, p5, q5, q4', z0, z3, z4, z5, m1, m3, y3, y4, y5, y8, ByteArray.size_append]; done)); (try (rotate_left; (· (intro hc; (try simp [hnt, dNd, gu, gu', gq, hltD, hDl, hwi, hr, hr', hlt, hp0, p5, q5, q4', z0, z3, z4, z5, m1, m3, y3, y4, y5, y8, ByteArray.size_append] at hc); done))))) | (refine DW_ret ?_; simp [Tryz.results162, hnt, dNd, gu, gu', gq, hltD, hDl, hwi, hr, hr', hlt, hp0, p5, q5, q4', z0, z3, z4, z5, m1, m3, y3, y4, y5, y8, ByteArray.size_append]) | ((first | refine DW_exit ?_ | refine DW_skip ?_); simp [hnt, dNd, gu, gu', gq, hltD, hDl, hwi, hr, hr', hlt, hp0, p5, q5, q4', z0, z3, z4, z5, m1, m3, y3, y4, y5, y8, ByteArray.size_append]) | (intro hc; (try simp [hnt, dNd, gu, gu', gq, hltD, hDl, hwi, hr, hr', hlt, hp0, p5, q5, q4', z0, z3, z4, z5, m1, m3, y3, y4, y5, y8, ByteArray.size_append] at hc); (try (exfalso; omega))) | ((first | refine callP_mk (e1) ?_ | (refine callP_wk (e1) ?_ ?_; (· (simp; done)))); try simp [hnt, dNd, gu, gu', gq, hltD, hDl, hwi, hr, hr', hlt, hp0, p5, q5, q4', z0, z3, z4, z5, m1, m3, y3, y4, y5, y8, ByteArray.size_append]) | (refine ⟨?_, ?_⟩; · omega) | omega | apply_assumption -exfalso -symm | (exfalso; omega)))
     refine Again.mk ⟨i + 1, by omega⟩ (Sub.lit (by simp [hnx, hDm, q5])) (by simp; omega)
     exact go0 (aj1 e1) aj0 aj0
    ·have p5' : (u.x.k == 5) = false := by simpa using p5
     simp [p5, q5] at hpt
     subst hpt
     by_cases p4 : u.x.k = 4
     ·(repeat (first | refine DW_seq fun K hK => ?_ | (refine DW_r anRY4162 Tryz.mixed (by kernel_rfl) ?_; simp [anRY4162, hnt, dNd, gu, gu', gq, hltD, hDl, hwi, hr, hr', hlt, hp0, p5, p5', p4, q5, q4', z0, z3, z4, z5, m1, m3, y3, y4, y5, y8, ByteArray.size_append]; try simp (disch := omega) only [wrap64_in]) | refine DW_block ?_ | (refine DW_if ?_ ?_ ?_; (· (simp [hnt, dNd, gu, gu', gq, hltD, hDl, hwi, hr, hr', hlt, hp0, p5, p5', p4, q5, q4', z0, z3, z4, z5, m1, m3, y3, y4, y5, y8, ByteArray.size_append]; done)); (try (rotate_left; (· (intro hc; (try simp [hnt, dNd, gu, gu', gq, hltD, hDl, hwi, hr, hr', hlt, hp0, p5, p5', p4, q5, q4', z0, z3, z4, z5, m1, m3, y3, y4, y5, y8, ByteArray.size_append] at hc); done))))) | (refine DW_ret ?_; simp [Tryz.results162, hnt, dNd, gu, gu', gq, hltD, hDl, hwi, hr, hr', hlt, hp0, p5, p5', p4, q5, q4', z0, z3, z4, z5, m1, m3, y3, y4, y5, y8, ByteArray.size_append]) | ((first | refine DW_exit ?_ | refine DW_skip ?_); simp [hnt, dNd, gu, gu', gq, hltD, hDl, hwi, hr, hr', hlt, hp0, p5, p5', p4, q5, q4', z0, z3, z4, z5, m1, m3, y3, y4, y5, y8, ByteArray.size_append]) | (intro hc; (try simp [hnt, dNd, gu, gu', gq, hltD, hDl, hwi, hr, hr', hlt, hp0, p5, p5', p4, q5, q4', z0, z3, z4, z5, m1, m3, y3, y4, y5, y8, ByteArray.size_append] at hc); (try (exfalso; omega))) | ((first | refine callP_mk (e1) ?_ | (refine callP_wk (e1) ?_ ?_; (· (simp; done)))); try simp [hnt, dNd, gu, gu', gq, hltD, hDl, hwi, hr, hr', hlt, hp0, p5, p5', p4, q5, q4', z0, z3, z4, z5, m1, m3, y3, y4, y5, y8, ByteArray.size_append]) | (refine ⟨?_, ?_⟩; · omega) | omega | apply_assumption -exfalso -symm | (exfalso; omega)))
      refine Again.mk ⟨i + 1, by omega⟩ (Sub.lit (by simp [hnx, hDm, q5])) (by simp; omega)
      exact go0 (aj1 e1) aj0 aj0
     ·have p4' : (u.x.k == 4) = false := by simpa using p4
      (repeat (first | refine DW_seq fun K hK => ?_ | (refine DW_r anRY4162 Tryz.mixed (by kernel_rfl) ?_; simp [anRY4162, hnt, dNd, gu, gu', gq, hltD, hDl, hwi, hr, hr', hlt, hp0, p5, p5', p4, p4', q5, q4', z0, z3, z4, z5, m1, m3, y3, y4, y5, y8, ByteArray.size_append]; try simp (disch := omega) only [wrap64_in]) | refine DW_block ?_ | (refine DW_if ?_ ?_ ?_; (· (simp [hnt, dNd, gu, gu', gq, hltD, hDl, hwi, hr, hr', hlt, hp0, p5, p5', p4, p4', q5, q4', z0, z3, z4, z5, m1, m3, y3, y4, y5, y8, ByteArray.size_append]; done)); (try (rotate_left; (· (intro hc; (try simp [hnt, dNd, gu, gu', gq, hltD, hDl, hwi, hr, hr', hlt, hp0, p5, p5', p4, p4', q5, q4', z0, z3, z4, z5, m1, m3, y3, y4, y5, y8, ByteArray.size_append] at hc); done))))) | (refine DW_ret ?_; simp [Tryz.results162, hnt, dNd, gu, gu', gq, hltD, hDl, hwi, hr, hr', hlt, hp0, p5, p5', p4, p4', q5, q4', z0, z3, z4, z5, m1, m3, y3, y4, y5, y8, ByteArray.size_append]) | ((first | refine DW_exit ?_ | refine DW_skip ?_); simp [hnt, dNd, gu, gu', gq, hltD, hDl, hwi, hr, hr', hlt, hp0, p5, p5', p4, p4', q5, q4', z0, z3, z4, z5, m1, m3, y3, y4, y5, y8, ByteArray.size_append]) | (intro hc; (try simp [hnt, dNd, gu, gu', gq, hltD, hDl, hwi, hr, hr', hlt, hp0, p5, p5', p4, p4', q5, q4', z0, z3, z4, z5, m1, m3, y3, y4, y5, y8, ByteArray.size_append] at hc); (try (exfalso; omega))) | ((first | refine callP_mk (e1) ?_ | (refine callP_wk (e1) ?_ ?_; (· (simp; done)))); try simp [hnt, dNd, gu, gu', gq, hltD, hDl, hwi, hr, hr', hlt, hp0, p5, p5', p4, p4', q5, q4', z0, z3, z4, z5, m1, m3, y3, y4, y5, y8, ByteArray.size_append]) | (refine ⟨?_, ?_⟩; · omega) | omega | apply_assumption -exfalso -symm | (exfalso; omega)))
      refine Again.mk ⟨i + 1, by omega⟩ (Sub.lit (by simp [hnx, hDm, q5])) (by simp; omega)
      exact go0 (aj1 e1) aj0 aj0
   ·have q5' : (x.k == 5) = false := by simpa using q5
    have q4 : x.k = 4 := by
     rcases (show x.k = 4 ∨ x.k = 6 ∨ x.k = 7 ∨ x.k = 8 from h8 k1 k2 q5) with h | h
     ·exact h
     ·have := h6 h; omega
    rw [if_neg q5, if_pos q4] at hnx
    by_cases p5 : u.x.k = 5
    ·simp [p5] at hpt
     subst hpt
     simp only [ByteArray.size_append, z4, z5] at y9
     (repeat (first | refine DW_seq fun K hK => ?_ | (refine DW_r anRY4162 Tryz.mixed (by kernel_rfl) ?_; simp [anRY4162, hnt, dNd, gu, gu', gq, hltD, hDl, hwi, hr, hr', hlt, hp0, p5, q5, q5', q4, z0, z2, z4, z5, m1, y3, y4, y6, y9, ByteArray.size_append]; try simp (disch := omega) only [wrap64_in]) | refine DW_block ?_ | (refine DW_if ?_ ?_ ?_; (· (simp [hnt, dNd, gu, gu', gq, hltD, hDl, hwi, hr, hr', hlt, hp0, p5, q5, q5', q4, z0, z2, z4, z5, m1, y3, y4, y6, y9, ByteArray.size_append]; done)); (try (rotate_left; (· (intro hc; (try simp [hnt, dNd, gu, gu', gq, hltD, hDl, hwi, hr, hr', hlt, hp0, p5, q5, q5', q4, z0, z2, z4, z5, m1, y3, y4, y6, y9, ByteArray.size_append] at hc); done))))) | (refine DW_ret ?_; simp [Tryz.results162, hnt, dNd, gu, gu', gq, hltD, hDl, hwi, hr, hr', hlt, hp0, p5, q5, q5', q4, z0, z2, z4, z5, m1, y3, y4, y6, y9, ByteArray.size_append]) | ((first | refine DW_exit ?_ | refine DW_skip ?_); simp [hnt, dNd, gu, gu', gq, hltD, hDl, hwi, hr, hr', hlt, hp0, p5, q5, q5', q4, z0, z2, z4, z5, m1, y3, y4, y6, y9, ByteArray.size_append]) | (intro hc; (try simp [hnt, dNd, gu, gu', gq, hltD, hDl, hwi, hr, hr', hlt, hp0, p5, q5, q5', q4, z0, z2, z4, z5, m1, y3, y4, y6, y9, ByteArray.size_append] at hc); (try (exfalso; omega))) | ((first | refine callP_mk (e1) ?_ | (refine callP_wk (e1) ?_ ?_; (· (simp; done)))); try simp [hnt, dNd, gu, gu', gq, hltD, hDl, hwi, hr, hr', hlt, hp0, p5, q5, q5', q4, z0, z2, z4, z5, m1, y3, y4, y6, y9, ByteArray.size_append]) | (refine ⟨?_, ?_⟩; · omega) | omega | apply_assumption -exfalso -symm | (exfalso; omega)))
     refine Again.mk ⟨i + 1, by omega⟩ (Sub.lit (by simp [hnx, hDm, q4])) (by simp; omega)
     exact go0 (aj1 e1) aj0 aj0
    ·have p5' : (u.x.k == 5) = false := by simpa using p5
     by_cases p4 : u.x.k = 4
     ·simp [p4, q5] at hpt
      subst hpt
      simp only [ByteArray.size_append, z4, z5] at y9
      (repeat (first | refine DW_seq fun K hK => ?_ | (refine DW_r anRY4162 Tryz.mixed (by kernel_rfl) ?_; simp [anRY4162, hnt, dNd, gu, gu', gq, hltD, hDl, hwi, hr, hr', hlt, hp0, p4, p5, p5', q5, q5', q4, z0, z2, z4, z5, m1, y3, y4, y6, y9, ByteArray.size_append]; try simp (disch := omega) only [wrap64_in]) | refine DW_block ?_ | (refine DW_if ?_ ?_ ?_; (· (simp [hnt, dNd, gu, gu', gq, hltD, hDl, hwi, hr, hr', hlt, hp0, p4, p5, p5', q5, q5', q4, z0, z2, z4, z5, m1, y3, y4, y6, y9, ByteArray.size_append]; done)); (try (rotate_left; (· (intro hc; (try simp [hnt, dNd, gu, gu', gq, hltD, hDl, hwi, hr, hr', hlt, hp0, p4, p5, p5', q5, q5', q4, z0, z2, z4, z5, m1, y3, y4, y6, y9, ByteArray.size_append] at hc); done))))) | (refine DW_ret ?_; simp [Tryz.results162, hnt, dNd, gu, gu', gq, hltD, hDl, hwi, hr, hr', hlt, hp0, p4, p5, p5', q5, q5', q4, z0, z2, z4, z5, m1, y3, y4, y6, y9, ByteArray.size_append]) | ((first | refine DW_exit ?_ | refine DW_skip ?_); simp [hnt, dNd, gu, gu', gq, hltD, hDl, hwi, hr, hr', hlt, hp0, p4, p5, p5', q5, q5', q4, z0, z2, z4, z5, m1, y3, y4, y6, y9, ByteArray.size_append]) | (intro hc; (try simp [hnt, dNd, gu, gu', gq, hltD, hDl, hwi, hr, hr', hlt, hp0, p4, p5, p5', q5, q5', q4, z0, z2, z4, z5, m1, y3, y4, y6, y9, ByteArray.size_append] at hc); (try (exfalso; omega))) | ((first | refine callP_mk (e1) ?_ | (refine callP_wk (e1) ?_ ?_; (· (simp; done)))); try simp [hnt, dNd, gu, gu', gq, hltD, hDl, hwi, hr, hr', hlt, hp0, p4, p5, p5', q5, q5', q4, z0, z2, z4, z5, m1, y3, y4, y6, y9, ByteArray.size_append]) | (refine ⟨?_, ?_⟩; · omega) | omega | apply_assumption -exfalso -symm | (exfalso; omega)))
      refine Again.mk ⟨i + 1, by omega⟩ (Sub.lit (by simp [hnx, hDm, q4])) (by simp; omega)
      exact go0 (aj1 e1) aj0 aj0
     ·have p4' : (u.x.k == 4) = false := by simpa using p4
      simp [p4, p5] at hpt
      subst hpt
      (repeat (first | refine DW_seq fun K hK => ?_ | (refine DW_r anRY4162 Tryz.mixed (by kernel_rfl) ?_; simp [anRY4162, hnt, dNd, gu, gu', gq, hltD, hDl, hwi, hr, hr', hlt, hp0, p4, p4', p5, p5', q5, q5', q4, z0, z2, z4, z5, m1, y3, y4, y6, y9, ByteArray.size_append]; try simp (disch := omega) only [wrap64_in]) | refine DW_block ?_ | (refine DW_if ?_ ?_ ?_; (· (simp [hnt, dNd, gu, gu', gq, hltD, hDl, hwi, hr, hr', hlt, hp0, p4, p4', p5, p5', q5, q5', q4, z0, z2, z4, z5, m1, y3, y4, y6, y9, ByteArray.size_append]; done)); (try (rotate_left; (· (intro hc; (try simp [hnt, dNd, gu, gu', gq, hltD, hDl, hwi, hr, hr', hlt, hp0, p4, p4', p5, p5', q5, q5', q4, z0, z2, z4, z5, m1, y3, y4, y6, y9, ByteArray.size_append] at hc); done))))) | (refine DW_ret ?_; simp [Tryz.results162, hnt, dNd, gu, gu', gq, hltD, hDl, hwi, hr, hr', hlt, hp0, p4, p4', p5, p5', q5, q5', q4, z0, z2, z4, z5, m1, y3, y4, y6, y9, ByteArray.size_append]) | ((first | refine DW_exit ?_ | refine DW_skip ?_); simp [hnt, dNd, gu, gu', gq, hltD, hDl, hwi, hr, hr', hlt, hp0, p4, p4', p5, p5', q5, q5', q4, z0, z2, z4, z5, m1, y3, y4, y6, y9, ByteArray.size_append]) | (intro hc; (try simp [hnt, dNd, gu, gu', gq, hltD, hDl, hwi, hr, hr', hlt, hp0, p4, p4', p5, p5', q5, q5', q4, z0, z2, z4, z5, m1, y3, y4, y6, y9, ByteArray.size_append] at hc); (try (exfalso; omega))) | ((first | refine callP_mk (e1) ?_ | (refine callP_wk (e1) ?_ ?_; (· (simp; done)))); try simp [hnt, dNd, gu, gu', gq, hltD, hDl, hwi, hr, hr', hlt, hp0, p4, p4', p5, p5', q5, q5', q4, z0, z2, z4, z5, m1, y3, y4, y6, y9, ByteArray.size_append]) | (refine ⟨?_, ?_⟩; · omega) | omega | apply_assumption -exfalso -symm | (exfalso; omega)))
      refine Again.mk ⟨i + 1, by omega⟩ (Sub.lit (by simp [hnx, hDm, q4])) (by simp; omega)
      exact go0 (aj1 e1) aj0 aj0
 ·have hkk : i = ks.length := by omega
  subst hkk
  have hac := hacs ks.length
  have hfin : (if x.k = 2 ∨ x.k = 3 then x.s else joinB (txtL x.k ks) (btw x.k) ++ sgn x.k) = accT x ks ks.length ++ sgn x.k := by
   by_cases k2 : x.k = 2 ∨ x.k = 3
   ·rw [if_pos k2, hlf k2, accT_zero]
    have : sgn x.k = ⟨#[]⟩ := by unfold sgn; rw [if_neg (by omega), if_neg (by omega), if_neg (by omega)]
    rw [this, str_app0r]
   ·rw [if_neg k2]
    unfold accT
    rw [if_neg (by have := hpos k1 k2; omega), List.take_length]
  rw [hfin] at hR
  clear hfin
  obtain ⟨a, ha⟩ : ∃ a, a = accT x ks ks.length := ⟨_, rfl⟩
  rw [← ha] at hac hR ⊢
  have y6 : a.size + 1 ≤ maxLen := by omega
  have y0 : a.size ≤ maxLen := by omega
  unfold sgn at hR
  by_cases j6 : x.k = 6
  ·rw [if_pos j6] at hR
   subst hR
   exact go0 aj0 aj0 (aj7 hDl j6 z6 y6 y0 m1 @ByteArray.size_append)
  ·have j6' : (x.k == 6) = false := by simpa using j6
   by_cases j7 : x.k = 7
   ·rw [if_neg j6, if_pos j7] at hR
    subst hR
    exact go0 aj0 aj0 (aj9 hDl j6 j6' j7 z7 y6 y0 m1 @ByteArray.size_append)
   ·have j7' : (x.k == 7) = false := by simpa using j7
    by_cases j8 : x.k = 8
    ·rw [if_neg j6, if_neg j7, if_pos j8] at hR
     subst hR
     exact go0 aj0 aj0 (aj11 hDl j6 j6' j7 j7' j8 z8 y6 y0 m1 @ByteArray.size_append)
    ·have j8' : (x.k == 8) = false := by simpa using j8
     rw [if_neg j6, if_neg j7, if_neg j8, str_app0r] at hR
     subst hR
     exact go0 aj0 aj0 (aj10 hDl j6 j6' j7 j7' j8 j8' y6 y0 m1)

def anRY4230 : Ann := ⟨[], []⟩
theorem bounds230_pure (t : RT) (ht : okT t = true) (hs : (flat t).length ≤ 1310720) : DPure Tryz.prog 230 [dNds (flat t)] (.int .i64 (boundI t)) := by
 refine DPure_introF [] (fn := Tryz.f230) Tryz.func230 rfl Tryz.call230 (by simp [Tryz.ntmps230]) (by simp [mx]) ?_
 intro hwf B hnt
 simp only [Tryz.ntmps230] at hnt
 have hA := an_is anRY4230 Tryz.mixed (aj2 @anRY4230.eq_1 Tryz.results230)
 clear hwf
 simp only [argS]
 have k1 := height169_pure _ t (flat t) 0 rfl (At.top ht) hs
 have k2 := textAt_pure _ t (flat t) 0 rfl (At.top ht) hs
 unfold boundI
 obtain ⟨T, hT⟩ : ∃ T, T = txtT t := ⟨_, rfl⟩
 rw [← hT] at k2 ⊢
 by_cases c1 : 16 < htT t
 ·have d1 : (16 : Int) < (htT t : Int) := by omega
  exact go0 (aj2 k1 k2) aj0 (aj2 c1 d1)
 ·have d1 : ¬ (16 : Int) < (htT t : Int) := by omega
  by_cases c2 : 2048 < T.size
  ·have d2 : (2048 : Int) < (T.size : Int) := by omega
   exact go0 (aj2 k1 k2) aj0 (aj4 c1 d1 c2 d2)
  ·have d2 : ¬ (2048 : Int) < (T.size : Int) := by omega
   exact go0 (aj2 k1 k2) aj0 (aj4 c1 d1 c2 d2)
def anRY4145 : Ann := ⟨[], []⟩
theorem rcheck145_tree (t : RT) (ht : okT t = true) (h : (flat t).length ≤ 2048) : DPure Tryz.prog 145 [dNds (flat t)] (.int .i64 (boundI t)) := by
 refine DPure_introF [] (fn := Tryz.f145) Tryz.func145 rfl Tryz.call145 (by simp [Tryz.ntmps145]) (by simp [mx]) ?_
 intro hwf B hnt
 simp only [Tryz.ntmps145] at hnt
 have hA := an_is anRY4145 Tryz.mixed (aj2 @anRY4145.eq_1 Tryz.results145)
 clear hwf
 simp only [argS]
 have k1 := isTree135_pure (flat t) (by omega)
 rw [tree_whole ht] at k1
 have k2 := bounds230_pure t ht (by omega)
 have d1 : ¬ (2048 : Int) < ((flat t).length : Int) := by omega
 have d2 : ¬ 2048 < (flat t).length := by omega
 exact go0 (aj2 k1 k2) aj0 (aj2 d1 d2)
theorem rcheck145_long (l : List Nd) (h : 2048 < l.length) : DPure Tryz.prog 145 [dNds l] (.int .i64 3) := by
 refine DPure_introF [] (fn := Tryz.f145) Tryz.func145 rfl Tryz.call145 (by simp [Tryz.ntmps145]) (by simp [mx]) ?_
 intro hwf B hnt
 simp only [Tryz.ntmps145] at hnt
 have hA := an_is anRY4145 Tryz.mixed (aj2 @anRY4145.eq_1 Tryz.results145)
 clear hwf
 simp only [argS]
 have d1 : (2048 : Int) < (l.length : Int) := by omega
 exact go0 aj0 aj0 (aj2 d1 h)
theorem rcheck145_bad (l : List Nd) (h : l.length ≤ 2048) (hw : wholeB l = false) : DPure Tryz.prog 145 [dNds l] (.int .i64 170) := by
 refine DPure_introF [] (fn := Tryz.f145) Tryz.func145 rfl Tryz.call145 (by simp [Tryz.ntmps145]) (by simp [mx]) ?_
 intro hwf B hnt
 simp only [Tryz.ntmps145] at hnt
 have hA := an_is anRY4145 Tryz.mixed (aj2 @anRY4145.eq_1 Tryz.results145)
 clear hwf
 simp only [argS]
 have k1 := isTree135_pure l (by omega)
 rw [hw] at k1
 have d1 : ¬ (2048 : Int) < (l.length : Int) := by omega
 have d2 : ¬ 2048 < l.length := by omega
 exact go0 (aj1 k1) aj0 (aj2 d1 d2)
def anRY4161 : Ann := ⟨[], []⟩
theorem rheight161_tree (t : RT) (ht : okT t = true) (hs : (flat t).length ≤ 1310720) : DPure Tryz.prog 161 [dNds (flat t)] (.int .i64 (htT t)) := by
 refine DPure_introF [] (fn := Tryz.f161) Tryz.func161 rfl Tryz.call161 (by simp [Tryz.ntmps161]) (by simp [mx]) ?_
 intro hwf B hnt
 simp only [Tryz.ntmps161] at hnt
 have hA := an_is anRY4161 Tryz.mixed (aj2 @anRY4161.eq_1 Tryz.results161)
 clear hwf
 simp only [argS]
 have k1 := isTree135_pure (flat t) hs
 rw [tree_whole ht] at k1
 have k2 := height169_pure _ t (flat t) 0 rfl (At.top ht) hs
 exact go0 (aj2 k1 k2) aj0 aj0

def natD (n : Nat) : List DVal := [.int .i64 (n : Int)]
@[simp] theorem mx_natD (n : Nat) : mxL (natD n) = 0 := by simp [natD, mxL, mx]
abbrev dNats (l : List Nat) : DVal := .sl 1 8 (l.map natD)
@[simp] theorem mx_nats (l : List Nat) : mxR (l.map natD) = 0 := mxR0 _ mx_natD l
theorem plN_le (l : List Nd) (n : Nat) : (plN l n).length ≤ n := by unfold plN; exact Nat.le_trans (List.length_filter_le _ _) (by simp)
def anRY480 : Ann := ⟨[], []⟩
set_option maxHeartbeats 1000000 in
theorem places80_pure (l : List Nd) : DPure Tryz.prog 80 [dNds l] (dNats (plN l l.length)) := by
 refine DPure_introF [50] (fn := Tryz.f80) Tryz.func80 rfl Tryz.call80 (by simp [Tryz.ntmps80]) (by simp [mx]) ?_
 intro hwf B hnt
 simp only [Tryz.ntmps80] at hnt
 have hA := an_is anRY480 Tryz.mixed (aj2 @anRY480.eq_1 Tryz.results80)
 have hs : l.length * 32 ≤ 150000000000000 := by have := hwf.1; simp only [wfD, List.length_map] at this; exact this.1
 clear hwf
 simp only [argS]
 (refine go1 aj0 aj0 aj0 ?_; intros; refine mk_i ?_)
 refine DW_adoptS 3 50 3 1 8 (by simp [hnt, Tryz.results80, anRY480]) (fun n => ?_)
 refine DW_loop (X := {i : Nat // i ≤ l.length}) (fun i => ⟨[(0, dNds l), (3, .osl 50 1), (4, .int .i64 i.1)], [⟨50, 1, .row 3 1 8 ((plN l i.1).map natD)⟩]⟩) (fun i => l.length - i.1) ⟨0, by omega⟩ (Sub.lit (by simp [plN_zero])) ?_
 rintro ⟨i, hi⟩
 simp only
 by_cases hlt : i < l.length
 ·obtain ⟨x, hx, hx', _⟩ := at_lt' hlt
  have hsc := plN_succ hx
  have hle := plN_le l i
  obtain ⟨T, hT⟩ : ∃ T, T = plN l i := ⟨_, rfl⟩
  rw [← hT] at hsc hle ⊢
  have z1 : (T.length + 1) * 8 ≤ 150000000000000 := by omega
  have z2 : T.length + 1 ≤ 9223372036854775807 := by omega
  by_cases ho : isOcc x = true
  ·rw [if_pos ho] at hsc
   have hd : (T.map natD) ++ [[.int .i64 (i : Int)]] = (plN l (i + 1)).map natD := by rw [hsc, List.map_append]; rfl
   rcases isOcc_iff.1 ho with k | k
   ·(refine go1 aj0 aj0 (aj7 @dNd.eq_1 hlt hx hx' k z1 z2) ?_; intros; refine mk_i ?_)
    refine Again.mk ⟨i + 1, by omega⟩ (Sub.lit (by simp [hd])) (by simp; omega)
    skip
   ·(refine go1 aj0 aj0 (aj7 @dNd.eq_1 hlt hx hx' k z1 z2) ?_; intros; refine mk_i ?_)
    refine Again.mk ⟨i + 1, by omega⟩ (Sub.lit (by simp [hd])) (by simp; omega)
    skip
  ·rw [if_neg ho, List.append_nil] at hsc
   have k2 : ¬ x.k = 2 := fun e => ho (isOcc_iff.2 (.inl e))
   have k3 : ¬ x.k = 3 := fun e => ho (isOcc_iff.2 (.inr e))
   have k2' : (x.k == 2) = false := by simpa using k2
   have k3' : (x.k == 3) = false := by simpa using k3
   (refine go1 aj0 aj0 (aj8 @dNd.eq_1 hlt hx hx' k2 k2' k3 k3') ?_; intros; refine mk_i ?_)
   refine Again.mk ⟨i + 1, by omega⟩ (Sub.lit (by simp [hsc])) (by simp; omega)
   skip
 ·have hkk : i = l.length := by omega
  subst hkk
  exact go0 aj0 aj0 aj0
def anRY4146 : Ann := ⟨[], []⟩
theorem rocc146_pure (l : List Nd) : DPure Tryz.prog 146 [dNds l] (.int .i64 (occN l)) := by
 refine DPure_introF [] (fn := Tryz.f146) Tryz.func146 rfl Tryz.call146 (by simp [Tryz.ntmps146]) (by simp [mx]) ?_
 intro hwf B hnt
 simp only [Tryz.ntmps146] at hnt
 have hA := an_is anRY4146 Tryz.mixed (aj2 @anRY4146.eq_1 Tryz.results146)
 clear hwf
 simp only [argS]
 have k1 := places80_pure l
 have h1 : (plN l l.length).length = occN l := by rw [plN_len (Nat.le_refl _), occN_lvs, rkN_all]
 exact go0 (aj1 k1) aj0 (aj1 h1)
end Go.Proofs.YtdgocjbakjamaaaGreat
end

section
set_option linter.unusedSectionVars false
/- Edges and ways in order, each once: plain Lean. -/


set_option linter.unusedSimpArgs false
set_option linter.unusedVariables false
namespace Go.Proofs.YtdgocjbakjamaaaGreat
open Go Go.Dm
variable [DMode]

theorem ordS : OrdC sCmp := by
 refine ⟨fun _ _ => sCmp_zero, fun x y => ?_, fun x y z h1 h2 => ?_⟩
 ·rw [sCmp_neg]
  unfold sCmp
  cases h1 : sLess x y
  ·cases h2 : sLess y x <;> simp
  ·rw [sLess_asym h1]; simp
 ·rw [sCmp_neg] at *; exact sLess_trans h1 h2
end Go.Proofs.YtdgocjbakjamaaaGreat
end

section
set_option linter.unusedSectionVars false
/- regex.Check at one node: height, text, bounded, Check -/


set_option linter.unusedSimpArgs false
set_option linter.unusedVariables false
namespace Go.Proofs.YtdgocjbakjamaaaGreat
open Go Go.Dm
variable [DMode]
attribute [local irreducible] DW callP callS
set_option maxRecDepth 100000

def anWR2206 : Ann := ⟨[], [⟨5, [6], [], []⟩, ⟨7, [22], [], []⟩]⟩
theorem height184_pure (k : Int) (s : ByteArray) : DPure Tryz.prog 206 [.sl 3 32 [dNode k s 0]] (.int .i64 1) := by
 refine DPure_introF [] (fn := Tryz.f206) Tryz.func206 rfl Tryz.call206 (by simp [Tryz.ntmps206]) (by simp [mx]) ?_
 intro hwf B hnt
 simp only [Tryz.ntmps206] at hnt
 have hA := an_is anWR2206 Tryz.mixed (aj2 @anWR2206.eq_1 Tryz.results206)
 clear hwf
 simp only [argS]
 (refine go1 aj0 aj0 (aj1 @dNode.eq_1) ?_; intros; refine mk_i ?_)
 refine DW_loop (X := Bool) (fun x => ⟨[(0, .sl 3 32 [dNode k s 0]), (3, .int .i64 (if x then 1 else 0)), (4, if x then .sl 1 8 [] else .nilsl), (7, .sl 3 32 [dNode k s 0]), (8, .int .i64 1), (9, .int .i64 (if x then 1 else 0))], []⟩) (fun x => if x then 0 else 1) false (Sub.lit (by simp [dNode])) ?_
 rintro (_ | _)
 ·(refine go1 aj0 aj0 (aj1 @dNode.eq_1) ?_; intros; refine mk_i ?_)
  refine DW_loop (X := Bool) (fun x => ⟨[(0, .sl 3 32 [dNode k s 0]), (3, .int .i64 1), (4, if x then .sl 1 8 [] else .sl 1 8 [[.int .i64 0]]), (7, .sl 3 32 [dNode k s 0]), (8, .int .i64 1), (9, .int .i64 0)], []⟩) (fun x => if x then 0 else 1) false (Sub.lit (by simp [dNode])) ?_
  rintro (_ | _)
  ·(refine go1 aj0 aj0 (aj1 @dNode.eq_1) ?_; intros; refine mk_i ?_)
   simp [hnt, Tryz.results206, anWR2206, dNode]
   (refine go1 aj0 aj0 (aj1 @dNode.eq_1) ?_; intros; refine mk_i ?_)
   refine Again.mk true (Sub.lit (by simp [dNode])) (by simp)
   skip
  ·(refine go1 aj0 aj0 (aj1 @dNode.eq_1) ?_; intros; refine mk_i ?_)
   refine Again.mk true (Sub.lit (by simp [dNode])) (by simp)
   skip
 ·exact go0 aj0 aj0 (aj1 @dNode.eq_1)
def anWR2207 : Ann := ⟨[], [⟨1, [3], [], []⟩]⟩
theorem text185_pure (k : Int) (hk : k = 2 ∨ k = 3) (s : ByteArray) : DPure Tryz.prog 207 [.sl 3 32 [dNode k s 0]] (.str s) := by
 refine DPure_introF [] (fn := Tryz.f207) Tryz.func207 rfl Tryz.call207 (by simp [Tryz.ntmps207]) (by simp [mx]) ?_
 intro hwf B hnt
 simp only [Tryz.ntmps207] at hnt
 have hA := an_is anWR2207 Tryz.mixed (aj2 @anWR2207.eq_1 Tryz.results207)
 clear hwf
 simp only [argS]
 rcases hk with rfl | rfl
 ·exact go0 aj0 aj0 (aj1 @dNode.eq_1)
 ·exact go0 aj0 aj0 (aj1 @dNode.eq_1)
def anWR2134 : Ann := ⟨[], []⟩
theorem bounded152_pure (k : Int) (hk : k = 2 ∨ k = 3) (s : ByteArray) (hs : s.size ≤ 16) : DPure Tryz.prog 134 [.sl 3 32 [dNode k s 0]] (.int .i64 0) := by
 refine DPure_introF [] (fn := Tryz.f134) Tryz.func134 rfl Tryz.call134 (by simp [Tryz.ntmps134]) (by simp [mx]) ?_
 intro hwf B hnt
 simp only [Tryz.ntmps134] at hnt
 have hA := an_is anWR2134 Tryz.mixed (aj2 @anWR2134.eq_1 Tryz.results134)
 clear hwf
 simp only [argS]
 have e1 := height184_pure k s
 have e2 := text185_pure k hk s
 have g1 : ¬ (2048 : Int) < s.size := by omega
 exact go0 (aj2 e1 e2) aj0 (aj1 g1)
theorem txt_size {k : Int} {s : ByteArray} (h : txtOK k s = true) : s.size ≤ 16 := by
 unfold txtOK at h
 split at h <;> (simp only [nameOK, Bool.and_eq_true, decide_eq_true_eq] at h; exact h.1.1.2)
def anWR267 : Ann := ⟨[], []⟩
theorem check112_pure (k : Int) (hk : k = 2 ∨ k = 3) (s : ByteArray) : DPure Tryz.prog 67 [.sl 3 32 [dNode k s 0]] (.int .i64 (if txtOK k s then 0 else 170)) := by
 refine DPure_introF [] (fn := Tryz.f67) Tryz.func67 rfl Tryz.call67 (by simp [Tryz.ntmps67]) (by simp [mx]) ?_
 intro hwf B hnt
 simp only [Tryz.ntmps67] at hnt
 have hA := an_is anWR267 Tryz.mixed (aj2 @anWR267.eq_1 Tryz.results67)
 clear hwf
 simp only [argS]
 have e1 := whole151_pure k hk s
 cases hT : txtOK k s
 ·rw [hT] at e1
  exact go0 (aj1 e1) aj0 aj0
 ·rw [hT] at e1
  have e2 := bounded152_pure k hk s (txt_size hT)
  exact go0 (aj2 e1 e2) aj0 aj0
end Go.Proofs.YtdgocjbakjamaaaGreat
end

section
set_option linter.unusedSectionVars false
/- names that are told apart: Name, Place, unlike, Unlike -/




set_option linter.unusedSimpArgs false
set_option linter.unusedVariables false
namespace Go.Proofs.YtdgocjbakjamaaaGreat
open Go Go.Dm
variable [DMode]
attribute [local irreducible] DW callP callS
set_option maxRecDepth 100000

end Go.Proofs.YtdgocjbakjamaaaGreat
end

section
set_option linter.unusedSectionVars false
/- grammars by definition: heads, names, what is missing, texts, Check -/





set_option linter.unusedSimpArgs false
set_option linter.unusedVariables false
namespace Go.Proofs.YtdgocjbakjamaaaGreat
open Go Go.Dm
variable [DMode]
attribute [local irreducible] DW callP callS
set_option maxRecDepth 100000

def anBN3100 : Ann := ⟨[], []⟩
theorem in100_pure (l : List ByteArray) (s : ByteArray) : DPure Tryz.prog 100 [dStrs l, .str s] (.bool (decide (s ∈ l))) := by
 refine DPure_introF [] (fn := Tryz.f100) Tryz.func100 rfl Tryz.call100 (by simp [Tryz.ntmps100]) (by simp [mx]) ?_
 intro hwf B hnt
 simp only [Tryz.ntmps100] at hnt
 have hA := an_is anBN3100 Tryz.mixed (aj2 @anBN3100.eq_1 Tryz.results100)
 have hlen := len_strs hwf.1
 clear hwf
 simp only [argS]
 obtain ⟨R, hR⟩ : ∃ R, R = decide (s ∈ l) := ⟨_, rfl⟩
 rw [← hR]
 (refine go1 aj0 aj0 aj0 ?_; intros; refine mk_i ?_)
 refine DW_loop (X := {k : Nat // k ≤ l.length ∧ R = decide (s ∈ l.drop k)}) (fun x => ⟨[(0, dStrs l), (1, .str s), (5, .int .i64 x.1)], []⟩) (fun x => l.length - x.1) ⟨0, by simp [hR]⟩ (Sub.lit (by simp)) ?_
 clear hR
 rintro ⟨k, hk, hR⟩
 by_cases hlt : k < l.length
 ·obtain ⟨x, hx, hx', hxm⟩ := at_lt' hlt
  rw [List.drop_eq_getElem_cons hlt, hx'] at hR
  cases hb : x == s
  ·have hne : ¬ s = x := fun e => by subst e; simp at hb
   have hR2 : R = decide (s ∈ l.drop (k + 1)) := by rw [hR]; simp [hne]
   (refine go1 aj0 aj0 (aj5 @dStr.eq_1 hlt hx' hx hb) ?_; intros; refine mk_i ?_)
   exact Again.mk ⟨k + 1, by omega, hR2⟩ (Sub.lit (by simp [])) (by simp; omega)
   skip
  ·have he : s = x := by simp at hb; exact hb.symm
   have hR2 : R = true := by rw [hR, he]; simp
   subst hR2
   exact go0 aj0 aj0 (aj5 @dStr.eq_1 hlt hx' hx hb)
 ·have hkk : k = l.length := by omega
  subst hkk
  rw [List.drop_length] at hR
  have hR2 : R = false := by rw [hR]; simp
  subst hR2
  exact go0 aj0 aj0 aj0
theorem inO_spec (l : List ByteArray) (s : ByteArray) : DSpec Tryz.prog (.func 100) [.osl 0 0, .str s] [⟨0, 0, .row 9 1 16 (l.map dStr)⟩] (.bool (decide (s ∈ l))) [⟨0, 0, .row 9 1 16 (l.map dStr)⟩] :=
 DSpec_lend rfl (in100_pure l s)

def anBN339 : Ann := ⟨[17], []⟩
set_option maxHeartbeats 1000000 in
theorem rheads39_pure (g : List Rul) : DPure Tryz.prog 39 [dRuls g] (dStrs (headsL g)) := by
 refine DPure_introF [3] (fn := Tryz.f39) Tryz.func39 rfl Tryz.call39 (by simp [Tryz.ntmps39]) (by simp [mx]) ?_
 intro hwf B hnt
 simp only [Tryz.ntmps39] at hnt
 have hA := an_is anBN339 Tryz.mixed (aj2 @anBN339.eq_1 Tryz.results39)
 have hs : g.length * 40 ≤ 150000000000000 := by have := hwf.1; simp only [wfD, List.length_map] at this; exact this.1
 clear hwf
 simp only [argS]
 (refine go1 aj0 aj0 aj0 ?_; intros; refine mk_i ?_)
 refine DW_adoptS 3 3 9 1 16 (by simp [hnt, Tryz.results39, anBN339]) (fun n => ?_)
 refine DW_loop (X := {i : Nat // i ≤ g.length}) (fun i => ⟨[(0, dRuls g), (3, .osl 3 1), (4, .int .i64 i.1)], [⟨3, 1, .row 9 1 16 ((headsL (g.take i.1)).map dStr)⟩]⟩) (fun i => g.length - i.1) ⟨0, by omega⟩ (Sub.lit (by simp [headsL])) ?_
 rintro ⟨i, hi⟩
 simp only
 by_cases hlt : i < g.length
 ·obtain ⟨r, hr, hr', hrm⟩ := at_lt' hlt
  have htk := headsL_take hr
  have hl := headsL_len (g.take i)
  rw [List.length_take] at hl
  obtain ⟨T, hT⟩ : ∃ T, T = headsL (g.take i) := ⟨_, rfl⟩
  rw [← hT] at htk hl ⊢
  have e1 := inO_spec T r.h
  have z1 : (T.length + 1) * 16 ≤ 150000000000000 := by omega
  have z2 : T.length + 1 ≤ 9223372036854775807 := by omega
  unfold hStep at htk
  by_cases hm : r.h ∈ T
  ·rw [if_pos hm] at htk
   rw [decide_eq_true hm] at e1
   (refine go1 aj0 (aj1 (spc [(3,0)] [] e1)) (aj4 @dRul.eq_1 hlt hr hr') ?_; intros; refine mk_i ?_)
   refine Again.mk ⟨i + 1, by omega⟩ (Sub.lit (by simp [htk])) (by simp; omega)
   skip
  ·rw [if_neg hm] at htk
   rw [decide_eq_false hm] at e1
   (refine go1 aj0 (aj1 (spc [(3,0)] [] e1)) (aj6 @dRul.eq_1 hlt hr hr' z1 z2) ?_; intros; refine mk_i ?_)
   refine Again.mk ⟨i + 1, by omega⟩ (Sub.lit (by simp [htk, dStr])) (by simp; omega)
   skip
 ·have hkk : i = g.length := by omega
  subst hkk
  rw [List.take_length]
  exact go0 aj0 aj0 aj0

def anBN3158 : Ann := ⟨[], []⟩
set_option maxHeartbeats 4000000 in
theorem insertS_pure (l : List ByteArray) (p : ByteArray) (hsz : (l.length + 1) * 16 ≤ 150000000000000) : DPure Tryz.prog 158 [dStrs l, .str p] (dStrs (insC sCmp l p)) := by
 refine DPure_introF [50] (fn := Tryz.f158) Tryz.func158 rfl Tryz.call158 (by simp [Tryz.ntmps158]) (by simp [mx]) ?_
 intro hwf B hnt
 simp only [Tryz.ntmps158] at hnt
 have hA := an_is anBN3158 Tryz.mixed (aj2 @anBN3158.eq_1 Tryz.results158)
 clear hwf
 simp only [argS]
 obtain ⟨r, hr⟩ : ∃ r, r = insC sCmp l p := ⟨_, rfl⟩
 rw [← hr]
 (refine go1 aj0 aj0 aj0 ?_; intros; refine mk_i ?_)
 refine DW_adoptS 5 50 9 1 16 (by simp [hnt, Tryz.results158, anBN3158]) (fun n => ?_)
 refine DW_loop (X := {x : Nat × Bool × List ByteArray // x.1 ≤ l.length ∧ x.2.2.length ≤ x.1 + (if x.2.1 then 1 else 0) ∧ x.2.2 ++ (if x.2.1 then l.drop x.1 else insC sCmp (l.drop x.1) p) = r}) (fun x => ⟨[(0, dStrs l), (1, .str p), (5, .osl 50 1), (6, .bool x.1.2.1), (7, .int .i64 x.1.1)], [⟨50, 1, .row 9 1 16 (x.1.2.2.map dStr)⟩]⟩) (fun x => l.length - x.1.1) ⟨(0, false, []), by simp [hr]⟩ (Sub.lit (by simp)) ?_
 rintro ⟨⟨k, b, R⟩, hk, hR, hcc⟩
 simp only at hk hR hcc ⊢
 clear hr
 by_cases hlt : k < l.length
 ·obtain ⟨q, hq, hq', hqm⟩ := at_lt' hlt
  rw [List.drop_eq_getElem_cons hlt, hq'] at hcc
  cases b
  ·simp only [Bool.false_eq_true, if_false, insC, Nat.add_zero] at hR hcc
   have hz1 : (R.length + 1) * 16 ≤ 150000000000000 := Nat.le_trans (Nat.mul_le_mul_right 16 (by omega)) hsz
   have hz2 : R.length ≤ 9223372036854775806 := by omega
   have hz3 : (R.length + 1 + 1) * 16 ≤ 150000000000000 := Nat.le_trans (Nat.mul_le_mul_right 16 (by omega)) hsz
   have hz4 : R.length + 1 ≤ 9223372036854775806 := by omega
   cases hc : sLess q p
   ·have hc2 : Op.bytesLess q.data.toList p.data.toList = false := hc
    rw [if_neg (show ¬ sCmp q p < 0 by rw [sCmp_neg, hc]; simp)] at hcc
    by_cases he : q = p
    ·subst he
     rw [if_neg (show ¬ sCmp q q < 0 by rw [sCmp_neg, sLess_irr]; simp)] at hcc
     (refine go1 aj0 aj0 (aj8 @dStr.eq_1 hlt hq' hc2 hz1 hz2 hz3 hz4) ?_; intros; refine mk_i ?_)
     refine Again.mk ⟨(k + 1, true, R ++ [q]), show k + 1 ≤ l.length ∧ (R ++ [q]).length ≤ k + 1 + _ ∧ _ from ⟨by omega, by simp; omega, by simpa using hcc⟩⟩ (Sub.lit (by simp [dStr])) (by simp; omega)
     skip
    ·have he2 : (q == p) = false := by simpa using he
     have hlp : sLess p q = true := by
      cases h2 : sLess p q
      ·exact absurd (sLess_tri hc h2) he
      ·rfl
     rw [if_pos (sCmp_neg.2 hlp)] at hcc
     (refine go1 aj0 aj0 (aj9 @dStr.eq_1 hlt hq' hc2 he2 hz1 hz2 hz3 hz4) ?_; intros; refine mk_i ?_)
     refine Again.mk ⟨(k + 1, true, R ++ [p, q]), show k + 1 ≤ l.length ∧ (R ++ [p, q]).length ≤ k + 1 + _ ∧ _ from ⟨by omega, by simp; omega, by simpa using hcc⟩⟩ (Sub.lit (by simp [dStr])) (by simp; omega)
     skip
   ·have hc2 : Op.bytesLess q.data.toList p.data.toList = true := hc
    rw [if_pos (sCmp_neg.2 hc)] at hcc
    (refine go1 aj0 aj0 (aj8 @dStr.eq_1 hlt hq' hc2 hz1 hz2 hz3 hz4) ?_; intros; refine mk_i ?_)
    refine Again.mk ⟨(k + 1, false, R ++ [q]), show k + 1 ≤ l.length ∧ (R ++ [q]).length ≤ k + 1 + _ ∧ _ from ⟨by omega, by simp; omega, by simpa using hcc⟩⟩ (Sub.lit (by simp [dStr])) (by simp; omega)
    skip
  ·simp only [if_true] at hR hcc
   have hz1 : (R.length + 1) * 16 ≤ 150000000000000 := Nat.le_trans (Nat.mul_le_mul_right 16 (by omega)) hsz
   have hz2 : R.length ≤ 9223372036854775806 := by omega
   (refine go1 aj0 aj0 (aj5 @dStr.eq_1 hlt hq' hz1 hz2) ?_; intros; refine mk_i ?_)
   refine Again.mk ⟨(k + 1, true, R ++ [q]), show k + 1 ≤ l.length ∧ (R ++ [q]).length ≤ k + 1 + _ ∧ _ from ⟨by omega, by simp; omega, by simpa using hcc⟩⟩ (Sub.lit (by simp [dStr])) (by simp; omega)
   skip
 ·have hk' : k = l.length := by omega
  subst hk'
  rw [List.drop_length] at hcc
  cases b
  ·simp only [Bool.false_eq_true, if_false, insC, Nat.add_zero] at hR hcc
   subst hcc
   have hz1 : (R.length + 1) * 16 ≤ 150000000000000 := Nat.le_trans (Nat.mul_le_mul_right 16 (by omega)) hsz
   have hz2 : R.length ≤ 9223372036854775806 := by omega
   exact go0 aj0 aj0 (aj3 @dStr.eq_1 hz1 hz2)
  ·simp only [if_true, List.append_nil] at hR hcc
   subst hcc
   exact go0 aj0 aj0 (aj1 @dStr.eq_1)

def insF (es : List ByteArray) : List ByteArray := es.foldl (insC sCmp) []
theorem insF_uniq (es : List ByteArray) : insF es = uniqS es := by
 obtain ⟨h1, h2⟩ := fold_strict ordS es [] List.Pairwise.nil
 refine uniq_of (h1.imp fun {a b} h => sCmp_neg.1 h) fun x => ?_
 unfold insF
 rw [h2]
 simp
theorem insF_snoc (es : List ByteArray) (s : ByteArray) : insF (es ++ [s]) = insC sCmp (insF es) s := by unfold insF; rw [List.foldl_append]; rfl
theorem namesK_take_len (k : Int) (g : List Rul) (i : Nat) : (namesK k (g.take i)).length ≤ (namesK k g).length := by
 have h : namesK k g = namesK k (g.take i) ++ namesK k (g.drop i) := by
  unfold namesK
  rw [← List.flatMap_append, List.take_append_drop]
 rw [h, List.length_append]
 omega
def anBN3102 : Ann := ⟨[], []⟩
set_option maxHeartbeats 2000000 in
theorem used102_pure (g : List Rul) (k : Int) (hn : ((namesK k g).length + 1) * 16 ≤ 150000000000000) : DPure Tryz.prog 102 [dRuls g, .int .i64 k] (dStrs (uniqS (namesK k g))) := by
 rw [← insF_uniq]
 refine DPure_introF [] (fn := Tryz.f102) Tryz.func102 rfl Tryz.call102 (by simp [Tryz.ntmps102]) (by simp [mx]) ?_
 intro hwf B hnt
 simp only [Tryz.ntmps102] at hnt
 have hA := an_is anBN3102 Tryz.mixed (aj2 @anBN3102.eq_1 Tryz.results102)
 have hwl := len_ruls hwf.1
 have hwb : ∀ r ∈ g, r.b.length < 9223372036854775807 := fun r hr => by
  have h1 := hwf.1
  obtain ⟨i, hi, rfl⟩ := List.getElem_of_mem hr
  have h2 : wfR (g.map dRul) := by simp only [wfD] at h1; exact h1.2.2
  have h3 := wfR_at h2 (List.getElem?_eq_getElem hi)
  simp only [dRul, wfL] at h3
  exact len_nds h3.2.1
 clear hwf
 simp only [argS]
 (refine go1 aj0 aj0 aj0 ?_; intros; refine mk_i ?_)
 refine DW_nilS 5 1 16 (by simp [hnt, Tryz.results102, anBN3102]) ?_
 refine DW_loop (X := {i : Nat // i ≤ g.length}) (fun i => ⟨[(0, dRuls g), (1, .int .i64 k), (5, dStrs (insF (namesK k (g.take i.1)))), (6, .int .i64 i.1)], []⟩) (fun i => g.length - i.1) ⟨0, by omega⟩ (Sub.lit (by simp [namesK, insF])) ?_
 rintro ⟨i, hi⟩
 simp only
 by_cases hlt : i < g.length
 ·obtain ⟨r, hr, hr', hrm⟩ := at_lt' hlt
  have htk := namesK_take (k := k) hr
  have hrl := hwb r hrm
  have hnl := namesK_take_len k g (i + 1)
  rw [htk, List.length_append] at hnl
  obtain ⟨N, hN⟩ : ∃ N, N = namesK k (g.take i) := ⟨_, rfl⟩
  rw [← hN] at htk hnl ⊢
  (refine go1 aj0 aj0 (aj4 @dRul.eq_1 hlt hr hr') ?_; intros; refine mk_i ?_)
  refine DW_loop (X := {j : Nat // j ≤ r.b.length}) (fun j => ⟨[(0, dRuls g), (1, .int .i64 k), (5, dStrs (insF (N ++ namesN k (r.b.take j.1)))), (6, .int .i64 i), (7, .int .i64 j.1)], []⟩) (fun j => r.b.length - j.1) ⟨0, by omega⟩ (Sub.lit (by simp [namesN])) ?_
  rintro ⟨j, hj⟩
  simp only
  by_cases hlt2 : j < r.b.length
  ·obtain ⟨x, hx, hx', hxm⟩ := at_lt' hlt2
   have htj := namesN_take (k := k) hx
   have hjl : (namesN k (r.b.take j)).length ≤ (namesN k r.b).length := by
    unfold namesN
    rw [List.length_map, List.length_map]
    exact ((List.take_sublist j r.b).filter _).length_le
   obtain ⟨E, hE⟩ : ∃ E, E = N ++ namesN k (r.b.take j) := ⟨_, rfl⟩
   have hE2 : N ++ namesN k (r.b.take (j + 1)) = E ++ (if x.k = k then [x.s] else []) := by rw [htj, hE, List.append_assoc]
   have hEl : (insF E).length ≤ (namesK k g).length := by
    rw [insF_uniq]
    have := uniqS_len E
    rw [hE, List.length_append] at this
    rw [← hE] at this
    omega
   rw [← hE]
   by_cases hk : x.k = k
   ·rw [if_pos hk] at hE2
    have hst := insF_snoc E x.s
    rw [← hE2] at hst
    have e1 := insertS_pure (insF E) x.s (Nat.le_trans (Nat.mul_le_mul_right 16 (by omega)) hn)
    rw [← hst] at e1
    obtain ⟨W, hW⟩ : ∃ W, W = insF E := ⟨_, rfl⟩
    obtain ⟨W2, hW2⟩ : ∃ W2, W2 = insF (N ++ namesN k (r.b.take (j + 1))) := ⟨_, rfl⟩
    rw [← hW, ← hW2] at e1
    rw [← hW]
    (refine go1 (aj1 e1) aj0 (aj9 @dRul.eq_1 @dNd.eq_1 hlt hr hr' hlt2 hx hx' hk) ?_; intros; refine mk_i ?_)
    refine Again.mk ⟨j + 1, by omega⟩ (Sub.lit (by simp only [← hW2]; simp)) (by simp; omega)
    skip
   ·have hk' : (x.k == k) = false := by simpa using hk
    rw [if_neg hk, List.append_nil] at hE2
    (refine go1 aj0 aj0 (aj10 @dRul.eq_1 @dNd.eq_1 hlt hr hr' hlt2 hx hx' hk hk') ?_; intros; refine mk_i ?_)
    refine Again.mk ⟨j + 1, by omega⟩ (Sub.lit (by simp only [hE2]; simp)) (by simp; omega)
    skip
  ·have hkk : j = r.b.length := by omega
   subst hkk
   rw [List.take_length]
   (refine go1 aj0 aj0 (aj4 @dRul.eq_1 hlt hr hr') ?_; intros; refine mk_i ?_)
   refine Again.mk ⟨i + 1, by omega⟩ (Sub.lit (by simp only [htk]; simp)) (by simp; omega)
   skip
 ·have hkk : i = g.length := by omega
  subst hkk
  rw [List.take_length]
  exact go0 aj0 aj0 aj0
def anBN341 : Ann := ⟨[], []⟩
theorem rlabels41_pure (g : List Rul) (hn : ((namesK 3 g).length + 1) * 16 ≤ 150000000000000) : DPure Tryz.prog 41 [dRuls g] (dStrs (labelsL' g)) := by
 refine DPure_introF [] (fn := Tryz.f41) Tryz.func41 rfl Tryz.call41 (by simp [Tryz.ntmps41]) (by simp [mx]) ?_
 intro hwf B hnt
 simp only [Tryz.ntmps41] at hnt
 have hA := an_is anBN341 Tryz.mixed (aj2 @anBN341.eq_1 Tryz.results41)
 clear hwf
 simp only [argS]
 have e1 := used102_pure g 3 hn
 unfold labelsL'
 exact go0 (aj1 e1) aj0 aj0
def missTo (g : List Rul) (j : Nat) : Nat := (((uniqS (namesK 2 g)).take j).filter fun s => !decide (s ∈ headsL g)).length
theorem missTo_all (g : List Rul) : missTo g (uniqS (namesK 2 g)).length = (missL g).length := by unfold missTo missL; rw [List.take_length]
theorem missTo_le (g : List Rul) (j : Nat) : missTo g j ≤ j := by
 unfold missTo
 exact Nat.le_trans (List.length_filter_le _ _) (List.length_take_le _ _)
theorem missTo_succ {g : List Rul} {j : Nat} {s : ByteArray} (h : (uniqS (namesK 2 g))[j]? = some s) : missTo g (j + 1) = missTo g j + (if s ∈ headsL g then 0 else 1) := by
 unfold missTo
 rw [List.take_add_one, h, List.filter_append, List.length_append]
 by_cases hs : s ∈ headsL g <;> simp [hs]
def anBN3108 : Ann := ⟨[], []⟩
set_option maxHeartbeats 1000000 in
theorem rmissing108_pure (g : List Rul) (hn : ((namesK 2 g).length + 1) * 16 ≤ 150000000000000) : DPure Tryz.prog 108 [dRuls g] (.int .i64 (missL g).length) := by
 refine DPure_introF [] (fn := Tryz.f108) Tryz.func108 rfl Tryz.call108 (by simp [Tryz.ntmps108]) (by simp [mx]) ?_
 intro hwf B hnt
 simp only [Tryz.ntmps108] at hnt
 have hA := an_is anBN3108 Tryz.mixed (aj2 @anBN3108.eq_1 Tryz.results108)
 clear hwf
 simp only [argS]
 have e1 := rheads39_pure g
 have e2 := used102_pure g 2 hn
 have hall := missTo_all g
 have hul := uniqS_len (namesK 2 g)
 have hsucc := fun j s => missTo_succ (g := g) (j := j) (s := s)
 have hle := missTo_le g
 obtain ⟨U, hU⟩ : ∃ U, U = uniqS (namesK 2 g) := ⟨_, rfl⟩
 obtain ⟨Hh, hH⟩ : ∃ Hh, Hh = headsL g := ⟨_, rfl⟩
 rw [← hU] at e2 hall hul hsucc
 rw [← hH] at e1 hsucc
 rw [← hall]
 (refine go1 (aj2 e1 e2) aj0 aj0 ?_; intros; refine mk_i ?_)
 refine DW_loop (X := {j : Nat // j ≤ U.length}) (fun j => ⟨[(3, dStrs Hh), (4, dStrs U), (5, .int .i64 (missTo g j.1)), (6, .int .i64 j.1)], []⟩) (fun j => U.length - j.1) ⟨0, by omega⟩ (Sub.lit (by simp [missTo])) ?_
 rintro ⟨j, hj⟩
 simp only
 by_cases hlt : j < U.length
 ·obtain ⟨s, hs, hs', _⟩ := at_lt' hlt
  have h1 := hsucc j s hs
  have h2 := hle j
  have e3 := in100_pure Hh s
  have w1 : IntKind.i64.wrap ((missTo g j : Int) + 1) = (missTo g j : Int) + 1 := wrap64_in (by omega) (by omega)
  have w2 : IntKind.i64.wrap ((j : Int) + 1) = (j : Int) + 1 := wrap64_in (by omega) (by omega)
  by_cases hm : s ∈ Hh
  ·rw [if_pos hm, Nat.add_zero] at h1
   rw [decide_eq_true hm] at e3
   (refine go1 (aj1 e3) aj0 (aj5 @dStr.eq_1 hlt hs hs' w2) ?_; intros; refine mk_i ?_)
   refine Again.mk ⟨j + 1, by omega⟩ (Sub.lit (by simp [h1])) (by simp; omega)
   skip
  ·rw [if_neg hm] at h1
   rw [decide_eq_false hm] at e3
   (refine go1 (aj1 e3) aj0 (aj6 @dStr.eq_1 hlt hs hs' w1 w2) ?_; intros; refine mk_i ?_)
   refine Again.mk ⟨j + 1, by omega⟩ (Sub.lit (by simp [h1])) (by simp; omega)
   skip
 ·have hkk : j = U.length := by omega
  subst hkk
  exact go0 aj0 aj0 aj0
end Go.Proofs.YtdgocjbakjamaaaGreat
end

section
set_option linter.unusedSectionVars false
/- grammars by definition: trees, occurrences, heights, texts, Check -/


set_option linter.unusedSimpArgs false
set_option linter.unusedVariables false
namespace Go.Proofs.YtdgocjbakjamaaaGreat
open Go Go.Dm
variable [DMode]
attribute [local irreducible] DW callP callS
set_option maxRecDepth 100000

def SmlG (g : List Rul) : Prop := ∀ r ∈ g, r.b.length ≤ 1310720
theorem names_le {k : Int} : ∀ {g : List Rul}, SmlG g → (namesK k g).length ≤ g.length * 1310720
 | [], _ => by simp [namesK]
 | r :: g, h => by
  have h1 := h r List.mem_cons_self
  have h2 := names_le (k := k) (g := g) fun x hx => h x (List.mem_cons_of_mem _ hx)
  have h3 := namesN_len k r.b
  have h4 : namesK k (r :: g) = namesN k r.b ++ namesK k g := by simp [namesK]
  rw [h4, List.length_append, List.length_cons]
  omega
theorem occN_le (l : List Nd) : occN l ≤ l.length := by rw [occN_lvs]; exact List.length_filter_le _ _
theorem occG_le : ∀ {g : List Rul}, SmlG g → occG g ≤ g.length * 1310720
 | [], _ => by simp [occG]
 | r :: g, h => by
  have h1 := h r List.mem_cons_self
  have h2 := occG_le (g := g) fun x hx => h x (List.mem_cons_of_mem _ hx)
  have h3 := occN_le r.b
  have h4 : occG (r :: g) = occN r.b + occG g := by simp [occG]
  rw [h4, List.length_cons]
  omega
theorem occG_take {g : List Rul} {i : Nat} {r : Rul} (h : g[i]? = some r) : occG (g.take (i + 1)) = occG (g.take i) + occN r.b := by
 unfold occG
 rw [List.take_add_one, h]
 simp
theorem occG_take_le (g : List Rul) (i : Nat) : occG (g.take i) ≤ occG g := by
 have h : occG g = occG (g.take i) + occG (g.drop i) := by
  unfold occG
  rw [← List.sum_append, ← List.map_append, List.take_append_drop]
 omega

theorem name159_pure (s : ByteArray) : DPure Tryz.prog 159 [.str s, .int .u8 85] (.bool (txtOK 2 s)) := rname113_pure 2 85 (.inl ⟨rfl, rfl⟩) s
def anBN4107 : Ann := ⟨[], []⟩
set_option maxHeartbeats 1000000 in
theorem trees107_pure (g : List Rul) (hs : SmlG g) : DPure Tryz.prog 107 [dRuls g] (.bool (treesB g)) := by
 refine DPure_introF [] (fn := Tryz.f107) Tryz.func107 rfl Tryz.call107 (by simp [Tryz.ntmps107]) (by simp [mx]) ?_
 intro hwf B hnt
 simp only [Tryz.ntmps107] at hnt
 have hA := an_is anBN4107 Tryz.mixed (aj2 @anBN4107.eq_1 Tryz.results107)
 have hwl := len_ruls hwf.1
 clear hwf
 simp only [argS]
 obtain ⟨R, hR⟩ : ∃ R, R = treesB g := ⟨_, rfl⟩
 rw [← hR]
 (refine go1 aj0 aj0 aj0 ?_; intros; refine mk_i ?_)
 refine DW_loop (X := {i : Nat // i ≤ g.length ∧ R = treesB (g.drop i)}) (fun i => ⟨[(0, dRuls g), (3, .int .i64 i.1)], []⟩) (fun i => g.length - i.1) ⟨0, by simp [hR]⟩ (Sub.lit (by simp)) ?_
 clear hR
 rintro ⟨i, hi, hR⟩
 simp only
 by_cases hlt : i < g.length
 ·obtain ⟨r, hr, hr', hrm⟩ := at_lt' hlt
  rw [List.drop_eq_getElem_cons hlt, hr'] at hR
  unfold treesB at hR
  rw [List.all_cons] at hR
  have e1 := name159_pure r.h
  have e2 := isTree135_pure r.b (hs r hrm)
  have w2 : IntKind.i64.wrap ((i : Int) + 1) = (i : Int) + 1 := wrap64_in (by omega) (by omega)
  cases h1 : txtOK 2 r.h
  ·rw [h1] at e1 hR
   simp only [Bool.false_and] at hR
   subst hR
   exact go0 (aj1 e1) aj0 (aj4 @dRul.eq_1 hlt hr hr')
  ·cases h2 : wholeB r.b
   ·rw [h2] at e2 hR
    rw [h1] at e1 hR
    simp only [Bool.false_and, Bool.and_false] at hR
    subst hR
    exact go0 (aj2 e1 e2) aj0 (aj4 @dRul.eq_1 hlt hr hr')
   ·rw [h2] at e2 hR
    rw [h1] at e1 hR
    simp only [Bool.true_and] at hR
    (refine go1 (aj2 e1 e2) aj0 (aj5 @dRul.eq_1 hlt hr hr' w2) ?_; intros; refine mk_i ?_)
    refine Again.mk ⟨i + 1, by omega, hR⟩ (Sub.lit (by simp)) (by simp; omega)
    skip
 ·have hkk : i = g.length := by omega
  subst hkk
  rw [List.drop_length] at hR
  have hR2 : R = true := hR
  subst hR2
  exact go0 aj0 aj0 aj0
def anBN4109 : Ann := ⟨[], []⟩
theorem rocc109_pure (g : List Rul) (hs : SmlG g) (hl : g.length ≤ 64) : DPure Tryz.prog 109 [dRuls g] (.int .i64 (occG g)) := by
 refine DPure_introF [] (fn := Tryz.f109) Tryz.func109 rfl Tryz.call109 (by simp [Tryz.ntmps109]) (by simp [mx]) ?_
 intro hwf B hnt
 simp only [Tryz.ntmps109] at hnt
 have hA := an_is anBN4109 Tryz.mixed (aj2 @anBN4109.eq_1 Tryz.results109)
 clear hwf
 simp only [argS]
 have ho := occG_le hs
 (refine go1 aj0 aj0 aj0 ?_; intros; refine mk_i ?_)
 refine DW_loop (X := {i : Nat // i ≤ g.length}) (fun i => ⟨[(0, dRuls g), (3, .int .i64 (occG (g.take i.1))), (4, .int .i64 i.1)], []⟩) (fun i => g.length - i.1) ⟨0, by omega⟩ (Sub.lit (by simp [occG])) ?_
 rintro ⟨i, hi⟩
 simp only
 by_cases hlt : i < g.length
 ·obtain ⟨r, hr, hr', hrm⟩ := at_lt' hlt
  have e1 := rocc146_pure r.b
  have h1 := occG_take hr
  have h2 := occG_take_le g (i + 1)
  have h3 := occN_le r.b
  have w1 : IntKind.i64.wrap ((occG (g.take i) : Int) + (occN r.b : Int)) = (occG (g.take (i + 1)) : Int) := by rw [wrap64_in (by omega) (by omega)]; omega
  have w2 : IntKind.i64.wrap ((i : Int) + 1) = (i : Int) + 1 := wrap64_in (by omega) (by omega)
  (refine go1 (aj1 e1) aj0 (aj6 @dRul.eq_1 hlt hr hr' w1 w2) ?_; intros; refine mk_i ?_)
  refine Again.mk ⟨i + 1, by omega⟩ (Sub.lit (by simp)) (by simp; omega)
  skip
 ·have hkk : i = g.length := by omega
  subst hkk
  rw [List.take_length]
  exact go0 aj0 aj0 aj0

theorem mkG_at {gt : GT} {i : Nat} {p : ByteArray × RT} (h : gt[i]? = some p) : (mkG gt)[i]? = some ⟨p.1, flat p.2⟩ := by unfold mkG; rw [List.getElem?_map, h]; rfl
theorem mkG_len (gt : GT) : (mkG gt).length = gt.length := by unfold mkG; rw [List.length_map]
theorem small_gt {gt : GT} (h : SmlG (mkG gt)) {p : ByteArray × RT} (hp : p ∈ gt) : (flat p.2).length ≤ 1310720 := h ⟨p.1, flat p.2⟩ (List.mem_map.2 ⟨p, hp, rfl⟩)
def anBN4110 : Ann := ⟨[], []⟩
theorem rdeep110_pure (gt : GT) (hk : OkG gt) (hs : SmlG (mkG gt)) (hl : gt.length ≤ 64) : DPure Tryz.prog 110 [dRuls (mkG gt)] (.bool (deepG gt)) := by
 refine DPure_introF [] (fn := Tryz.f110) Tryz.func110 rfl Tryz.call110 (by simp [Tryz.ntmps110]) (by simp [mx]) ?_
 intro hwf B hnt
 simp only [Tryz.ntmps110] at hnt
 have hA := an_is anBN4110 Tryz.mixed (aj2 @anBN4110.eq_1 Tryz.results110)
 clear hwf
 simp only [argS]
 have hml := mkG_len gt
 have hat := fun i p => mkG_at (gt := gt) (i := i) (p := p)
 have hsm := fun p => small_gt hs (p := p)
 obtain ⟨g, hg⟩ : ∃ g, g = mkG gt := ⟨_, rfl⟩
 rw [← hg] at hml hat ⊢
 obtain ⟨R, hR⟩ : ∃ R, R = deepG gt := ⟨_, rfl⟩
 rw [← hR]
 clear hs hg
 (refine go1 aj0 aj0 aj0 ?_; intros; refine mk_i ?_)
 refine DW_loop (X := {i : Nat // i ≤ gt.length ∧ R = deepG (gt.drop i)}) (fun i => ⟨[(0, dRuls g), (3, .int .i64 i.1)], []⟩) (fun i => gt.length - i.1) ⟨0, by simp [hR]⟩ (Sub.lit (by simp)) ?_
 clear hR
 rintro ⟨i, hi, hR⟩
 simp only
 by_cases hlt : i < gt.length
 ·obtain ⟨p, hp, hp', hpm⟩ := at_lt' hlt
  rw [List.drop_eq_getElem_cons hlt, hp'] at hR
  unfold deepG at hR
  rw [List.any_cons] at hR
  have hr := hat i p hp
  have hlt2 : i < g.length := by omega
  have hr' : g[i]'hlt2 = ⟨p.1, flat p.2⟩ := (List.getElem?_eq_some_iff.1 hr).2
  have e1 := rheight161_tree p.2 (hk p hpm).2 (hsm p hpm)
  have w2 : IntKind.i64.wrap ((i : Int) + 1) = (i : Int) + 1 := wrap64_in (by omega) (by omega)
  obtain ⟨b, hb⟩ : ∃ b, b = flat p.2 := ⟨_, rfl⟩
  rw [← hb] at hr hr' e1
  by_cases hd : 16 < htT p.2
  ·have hd' : (16 : Int) < (htT p.2 : Int) := by omega
   rw [decide_eq_true hd, Bool.true_or] at hR
   subst hR
   exact go0 (aj1 e1) aj0 (aj7 @dRul.eq_1 hlt hlt2 hr hr' hd hd')
  ·have hd' : ¬ (16 : Int) < (htT p.2 : Int) := by omega
   rw [decide_eq_false hd, Bool.false_or] at hR
   (refine go1 (aj1 e1) aj0 (aj8 @dRul.eq_1 hlt hlt2 hr hr' hd hd' w2) ?_; intros; refine mk_i ?_)
   refine Again.mk ⟨i + 1, by omega, hR⟩ (Sub.lit (by simp)) (by simp; omega)
   skip
 ·have hkk : i = gt.length := by omega
  subst hkk
  rw [List.drop_length] at hR
  have hR2 : R = false := hR
  subst hR2
  exact go0 aj0 aj0 (aj1 hml)
theorem txtOK_size {k : Int} {s : ByteArray} (h : txtOK k s = true) : s.size ≤ 16 := by
 unfold txtOK nameOK at h
 split at h <;> simp only [Bool.and_eq_true, decide_eq_true_eq] at h <;> exact h.1.1.2
theorem ruleT_size {gt : GT} {p : ByteArray × RT} (hk : OkG gt) (hs : SmlG (mkG gt)) (hp : p ∈ gt) : (ruleT p).size ≤ 31457310 := by
 have h1 := txtOK_size (hk p hp).1
 have h2 := (txt_sizeT p.2 (hk p hp).2).2
 have h3 := small_gt hs hp
 unfold ruleT
 simp only [ByteArray.size_append]
 have z3 : (⟨#[32, 61, 32]⟩ : ByteArray).size = 3 := rfl
 have z4 : (⟨#[32, 59, 10]⟩ : ByteArray).size = 3 := rfl
 omega
theorem textG_size {gt : GT} (hk : OkG gt) (hs : SmlG (mkG gt)) : ∀ i, i ≤ gt.length → (textG (gt.take i)).size ≤ i * 31457310
 | 0, _ => by simp [textG]; decide
 | i + 1, h => by
  have hx : gt[i]? = some (gt[i]'(by omega)) := List.getElem?_eq_getElem (by omega)
  have ih := textG_size hk hs i (by omega)
  have h1 := ruleT_size hk hs (List.getElem_mem (show i < gt.length by omega))
  rw [textG_take hx, ByteArray.size_append]
  omega
def anBN4111 : Ann := ⟨[], []⟩
set_option maxHeartbeats 1000000 in
theorem rtext111_pure (gt : GT) (hk : OkG gt) (hs : SmlG (mkG gt)) (hl : gt.length ≤ 64) : DPure Tryz.prog 111 [dRuls (mkG gt)] (.str (textG gt)) := by
 refine DPure_introF [] (fn := Tryz.f111) Tryz.func111 rfl Tryz.call111 (by simp [Tryz.ntmps111]) (by simp [mx]) ?_
 intro hwf B hnt
 simp only [Tryz.ntmps111] at hnt
 have hA := an_is anBN4111 Tryz.mixed (aj2 @anBN4111.eq_1 Tryz.results111)
 clear hwf
 simp only [argS]
 have hml := mkG_len gt
 have hat := fun i p => mkG_at (gt := gt) (i := i) (p := p)
 have hsm := fun p => small_gt hs (p := p)
 have hts := textG_size hk hs
 obtain ⟨g, hg⟩ : ∃ g, g = mkG gt := ⟨_, rfl⟩
 rw [← hg] at hml hat ⊢
 clear hs hg
 have z0 : (⟨#[]⟩ : ByteArray).size = 0 := rfl
 have z3 : (⟨#[32, 61, 32]⟩ : ByteArray).size = 3 := rfl
 have z4 : (⟨#[32, 59, 10]⟩ : ByteArray).size = 3 := rfl
 have m3 : 3 ≤ maxLen := by decide
 have mbig : 3000000000 ≤ maxLen := by decide
 (refine go1 aj0 aj0 (aj1 z0) ?_; intros; refine mk_i ?_)
 refine DW_loop (X := {i : Nat // i ≤ gt.length}) (fun i => ⟨[(0, dRuls g), (3, .str (textG (gt.take i.1))), (4, .int .i64 i.1)], []⟩) (fun i => gt.length - i.1) ⟨0, by omega⟩ (Sub.lit (by simp [textG])) ?_
 rintro ⟨i, hi⟩
 simp only
 by_cases hlt : i < gt.length
 ·obtain ⟨p, hp, hp', hpm⟩ := at_lt' hlt
  have hr := hat i p hp
  have hlt2 : i < g.length := by omega
  have hr' : g[i]'hlt2 = ⟨p.1, flat p.2⟩ := (List.getElem?_eq_some_iff.1 hr).2
  have e1 := textAt_pure _ p.2 (flat p.2) 0 rfl (At.top (hk p hpm).2) (hsm p hpm)
  have w2 : IntKind.i64.wrap ((i : Int) + 1) = (i : Int) + 1 := wrap64_in (by omega) (by omega)
  have h1 := hts (i + 1) (by omega)
  have hnx := textG_take hp
  rw [hnx] at h1
  unfold ruleT at h1 hnx
  simp only [ByteArray.size_append, z3, z4] at h1
  obtain ⟨b, hb⟩ : ∃ b, b = flat p.2 := ⟨_, rfl⟩
  rw [← hb] at hr hr' e1
  obtain ⟨s, hs⟩ : ∃ s, s = txtT p.2 := ⟨_, rfl⟩
  rw [← hs] at e1 h1 hnx
  obtain ⟨a, ha⟩ : ∃ a, a = textG (gt.take i) := ⟨_, rfl⟩
  rw [← ha] at hnx h1 ⊢
  have y1 : a.size + p.1.size ≤ maxLen := by omega
  have y2 : a.size + p.1.size + 3 ≤ maxLen := by omega
  have y3 : a.size + p.1.size + 3 + s.size ≤ maxLen := by omega
  have y4 : a.size + p.1.size + 3 + s.size + 3 ≤ maxLen := by omega
  have hq : a ++ p.1 ++ ⟨#[32, 61, 32]⟩ ++ s ++ ⟨#[32, 59, 10]⟩ = textG (gt.take (i + 1)) := by rw [hnx]; simp only [ByteArray.append_assoc]
  (refine go1 (aj1 e1) aj0 (aj14 @dRul.eq_1 hlt hlt2 hr hr' z3 z4 m3 y1 y2 y3 y4 @ByteArray.size_append w2) ?_; intros; refine mk_i ?_)
  refine Again.mk ⟨i + 1, by omega⟩ (Sub.lit (by simp [hq])) (by simp; omega)
  skip
 ·have hkk : i = gt.length := by omega
  subst hkk
  rw [List.take_length]
  exact go0 aj0 aj0 (aj1 hml)

def anBN448 : Ann := ⟨[], []⟩
theorem rcheck48_count (g : List Rul) (h : g.length < 1 ∨ 64 < g.length) : DPure Tryz.prog 48 [dRuls g] (.int .i64 180) := by
 refine DPure_introF [] (fn := Tryz.f48) Tryz.func48 rfl Tryz.call48 (by simp [Tryz.ntmps48]) (by simp [mx]) ?_
 intro hwf B hnt
 simp only [Tryz.ntmps48] at hnt
 have hA := an_is anBN448 Tryz.mixed (aj2 @anBN448.eq_1 Tryz.results48)
 clear hwf
 simp only [argS]
 rcases h with h | h
 ·have d1 : (g.length : Int) < 1 := by omega
  have h0 : g = [] := List.eq_nil_of_length_eq_zero (by omega)
  subst h0
  exact go0 aj0 aj0 aj0
 ·have d1 : ¬ (g.length : Int) < 1 := by omega
  have d2 : (64 : Int) < (g.length : Int) := by omega
  have d3 : ¬ g.length < 1 := by omega
  exact go0 aj0 aj0 (aj4 d1 d2 h d3)
theorem rcheck48_bad (g : List Rul) (h1 : 1 ≤ g.length) (h2 : g.length ≤ 64) (hs : SmlG g) (ht : treesB g = false) : DPure Tryz.prog 48 [dRuls g] (.int .i64 170) := by
 refine DPure_introF [] (fn := Tryz.f48) Tryz.func48 rfl Tryz.call48 (by simp [Tryz.ntmps48]) (by simp [mx]) ?_
 intro hwf B hnt
 simp only [Tryz.ntmps48] at hnt
 have hA := an_is anBN448 Tryz.mixed (aj2 @anBN448.eq_1 Tryz.results48)
 clear hwf
 simp only [argS]
 have d1 : ¬ (g.length : Int) < 1 := by omega
 have d2 : ¬ (64 : Int) < (g.length : Int) := by omega
 have d3 : ¬ g.length < 1 := by omega
 have d4 : ¬ 64 < g.length := by omega
 have e1 := trees107_pure g hs
 rw [ht] at e1
 exact go0 (aj1 e1) aj0 (aj4 d1 d2 d3 d4)
set_option maxHeartbeats 2000000 in
theorem rcheck48_gt (gt : GT) (h1 : 1 ≤ gt.length) (h2 : gt.length ≤ 64) (hk : OkG gt) (hs : SmlG (mkG gt)) : DPure Tryz.prog 48 [dRuls (mkG gt)] (.int .i64 (codeT gt)) := by
 refine DPure_introF [] (fn := Tryz.f48) Tryz.func48 rfl Tryz.call48 (by simp [Tryz.ntmps48]) (by simp [mx]) ?_
 intro hwf B hnt
 simp only [Tryz.ntmps48] at hnt
 have hA := an_is anBN448 Tryz.mixed (aj2 @anBN448.eq_1 Tryz.results48)
 clear hwf
 simp only [argS]
 have hml := mkG_len gt
 have e1 := trees107_pure (mkG gt) hs
 rw [gt_trees hk] at e1
 have n2 := names_le (k := 2) hs
 have n3 := names_le (k := 3) hs
 have e2 := rheads39_pure (mkG gt)
 have e3 := rmissing108_pure (mkG gt) (by omega)
 have e4 := rlabels41_pure (mkG gt) (by omega)
 have e5 := rocc109_pure (mkG gt) hs (by omega)
 have e6 := rdeep110_pure gt hk hs h2
 have e7 := rtext111_pure gt hk hs h2
 have b1 := headsL_len (mkG gt)
 have b2 : (missL (mkG gt)).length ≤ 100000000 := by
  have := uniqS_len (namesK 2 (mkG gt))
  have := List.length_filter_le (fun s => !decide (s ∈ headsL (mkG gt))) (uniqS (namesK 2 (mkG gt)))
  unfold missL
  omega
 obtain ⟨g, hg⟩ : ∃ g, g = mkG gt := ⟨_, rfl⟩
 obtain ⟨C, hC⟩ : ∃ C, C = codeT gt := ⟨_, rfl⟩
 rw [← hC]
 unfold codeT at hC
 rw [← hg] at hml e1 e2 e3 e4 e5 e6 e7 b1 b2 hC ⊢
 obtain ⟨H, hH⟩ : ∃ H, H = headsL g := ⟨_, rfl⟩
 obtain ⟨m, hm⟩ : ∃ m, m = (missL g).length := ⟨_, rfl⟩
 obtain ⟨L, hL⟩ : ∃ L, L = labelsL' g := ⟨_, rfl⟩
 obtain ⟨o, ho⟩ : ∃ o, o = occG g := ⟨_, rfl⟩
 obtain ⟨T, hT⟩ : ∃ T, T = textG gt := ⟨_, rfl⟩
 rw [← hH] at e2 b1 hC
 rw [← hm] at e3 b2 hC
 rw [← hL] at e4 hC
 rw [← ho] at e5 hC
 rw [← hT] at e7 hC
 clear hH hm hL ho hT n2 n3 hg
 have d1 : ¬ (g.length : Int) < 1 := by omega
 have d2 : ¬ (64 : Int) < (g.length : Int) := by omega
 have d3 : ¬ g.length < 1 := by omega
 have d4 : ¬ 64 < g.length := by omega
 have w1 : IntKind.i64.wrap ((H.length : Int) + (m : Int)) = ((H.length + m : Nat) : Int) := by rw [wrap64_in (by omega) (by omega)]; omega
 by_cases c1 : 16 < H.length + m
 ·have q1 : (16 : Int) < ((H.length + m : Nat) : Int) := by omega
  rw [if_pos c1] at hC
  subst hC
  (repeat (first | refine DW_seq fun K hK => ?_ | (refine DW_r anBN448 Tryz.mixed (by kernel_rfl) ?_; simp [anBN448, hnt, d1, d2, d3, d4, w1, c1, q1, -Int.natCast_add]; try simp (disch := omega) only [wrap64_in]) | refine DW_block ?_ | (refine DW_if ?_ ?_ ?_; (· (simp [hnt, d1, d2, d3, d4, w1, c1, q1, -Int.natCast_add]; done)); (try (rotate_left; (· (intro hc; (try simp [hnt, d1, d2, d3, d4, w1, c1, q1, -Int.natCast_add] at hc); done))))) | (refine DW_ret ?_; simp [Tryz.results48, hnt, d1, d2, d3, d4, w1, c1, q1, -Int.natCast_add]) | ((first | refine DW_exit ?_ | refine DW_skip ?_); simp [hnt, d1, d2, d3, d4, w1, c1, q1, -Int.natCast_add]) | (intro hc; (try simp [hnt, d1, d2, d3, d4, w1, c1, q1, -Int.natCast_add] at hc); (try (exfalso; omega))) | ((first | refine callP_mk (e1) ?_ | refine callP_mk (e2) ?_ | refine callP_mk (e3) ?_ | refine callP_mk (e4) ?_ | refine callP_mk (e5) ?_ | refine callP_mk (e6) ?_ | refine callP_mk (e7) ?_ | (refine callP_wk (e1) ?_ ?_; (· (simp; done))) | (refine callP_wk (e2) ?_ ?_; (· (simp; done))) | (refine callP_wk (e3) ?_ ?_; (· (simp; done))) | (refine callP_wk (e4) ?_ ?_; (· (simp; done))) | (refine callP_wk (e5) ?_ ?_; (· (simp; done))) | (refine callP_wk (e6) ?_ ?_; (· (simp; done))) | (refine callP_wk (e7) ?_ ?_; (· (simp; done)))); try simp [hnt, d1, d2, d3, d4, w1, c1, q1, -Int.natCast_add]) | (refine ⟨?_, ?_⟩; · omega) | omega | apply_assumption -exfalso -symm | (exfalso; omega)))
 rw [if_neg c1] at hC
 have q1 : ¬ (16 : Int) < ((H.length + m : Nat) : Int) := by omega
 by_cases c2 : 16 < L.length
 ·have q2 : (16 : Int) < (L.length : Int) := by omega
  rw [if_pos c2] at hC
  subst hC
  (repeat (first | refine DW_seq fun K hK => ?_ | (refine DW_r anBN448 Tryz.mixed (by kernel_rfl) ?_; simp [anBN448, hnt, d1, d2, d3, d4, w1, c1, q1, c2, q2, -Int.natCast_add]; try simp (disch := omega) only [wrap64_in]) | refine DW_block ?_ | (refine DW_if ?_ ?_ ?_; (· (simp [hnt, d1, d2, d3, d4, w1, c1, q1, c2, q2, -Int.natCast_add]; done)); (try (rotate_left; (· (intro hc; (try simp [hnt, d1, d2, d3, d4, w1, c1, q1, c2, q2, -Int.natCast_add] at hc); done))))) | (refine DW_ret ?_; simp [Tryz.results48, hnt, d1, d2, d3, d4, w1, c1, q1, c2, q2, -Int.natCast_add]) | ((first | refine DW_exit ?_ | refine DW_skip ?_); simp [hnt, d1, d2, d3, d4, w1, c1, q1, c2, q2, -Int.natCast_add]) | (intro hc; (try simp [hnt, d1, d2, d3, d4, w1, c1, q1, c2, q2, -Int.natCast_add] at hc); (try (exfalso; omega))) | ((first | refine callP_mk (e1) ?_ | refine callP_mk (e2) ?_ | refine callP_mk (e3) ?_ | refine callP_mk (e4) ?_ | refine callP_mk (e5) ?_ | refine callP_mk (e6) ?_ | refine callP_mk (e7) ?_ | (refine callP_wk (e1) ?_ ?_; (· (simp; done))) | (refine callP_wk (e2) ?_ ?_; (· (simp; done))) | (refine callP_wk (e3) ?_ ?_; (· (simp; done))) | (refine callP_wk (e4) ?_ ?_; (· (simp; done))) | (refine callP_wk (e5) ?_ ?_; (· (simp; done))) | (refine callP_wk (e6) ?_ ?_; (· (simp; done))) | (refine callP_wk (e7) ?_ ?_; (· (simp; done)))); try simp [hnt, d1, d2, d3, d4, w1, c1, q1, c2, q2, -Int.natCast_add]) | (refine ⟨?_, ?_⟩; · omega) | omega | apply_assumption -exfalso -symm | (exfalso; omega)))
 rw [if_neg c2] at hC
 have q2 : ¬ (16 : Int) < (L.length : Int) := by omega
 by_cases c3 : 64 < o
 ·have q3 : (64 : Int) < (o : Int) := by omega
  rw [if_pos c3] at hC
  subst hC
  (repeat (first | refine DW_seq fun K hK => ?_ | (refine DW_r anBN448 Tryz.mixed (by kernel_rfl) ?_; simp [anBN448, hnt, d1, d2, d3, d4, w1, c1, q1, c2, q2, c3, q3, -Int.natCast_add]; try simp (disch := omega) only [wrap64_in]) | refine DW_block ?_ | (refine DW_if ?_ ?_ ?_; (· (simp [hnt, d1, d2, d3, d4, w1, c1, q1, c2, q2, c3, q3, -Int.natCast_add]; done)); (try (rotate_left; (· (intro hc; (try simp [hnt, d1, d2, d3, d4, w1, c1, q1, c2, q2, c3, q3, -Int.natCast_add] at hc); done))))) | (refine DW_ret ?_; simp [Tryz.results48, hnt, d1, d2, d3, d4, w1, c1, q1, c2, q2, c3, q3, -Int.natCast_add]) | ((first | refine DW_exit ?_ | refine DW_skip ?_); simp [hnt, d1, d2, d3, d4, w1, c1, q1, c2, q2, c3, q3, -Int.natCast_add]) | (intro hc; (try simp [hnt, d1, d2, d3, d4, w1, c1, q1, c2, q2, c3, q3, -Int.natCast_add] at hc); (try (exfalso; omega))) | ((first | refine callP_mk (e1) ?_ | refine callP_mk (e2) ?_ | refine callP_mk (e3) ?_ | refine callP_mk (e4) ?_ | refine callP_mk (e5) ?_ | refine callP_mk (e6) ?_ | refine callP_mk (e7) ?_ | (refine callP_wk (e1) ?_ ?_; (· (simp; done))) | (refine callP_wk (e2) ?_ ?_; (· (simp; done))) | (refine callP_wk (e3) ?_ ?_; (· (simp; done))) | (refine callP_wk (e4) ?_ ?_; (· (simp; done))) | (refine callP_wk (e5) ?_ ?_; (· (simp; done))) | (refine callP_wk (e6) ?_ ?_; (· (simp; done))) | (refine callP_wk (e7) ?_ ?_; (· (simp; done)))); try simp [hnt, d1, d2, d3, d4, w1, c1, q1, c2, q2, c3, q3, -Int.natCast_add]) | (refine ⟨?_, ?_⟩; · omega) | omega | apply_assumption -exfalso -symm | (exfalso; omega)))
 rw [if_neg c3] at hC
 have q3 : ¬ (64 : Int) < (o : Int) := by omega
 cases c4 : deepG gt
 rotate_left
 ·rw [if_pos c4] at hC
  rw [c4] at e6
  subst hC
  (repeat (first | refine DW_seq fun K hK => ?_ | (refine DW_r anBN448 Tryz.mixed (by kernel_rfl) ?_; simp [anBN448, hnt, d1, d2, d3, d4, w1, c1, q1, c2, q2, c3, q3, -Int.natCast_add]; try simp (disch := omega) only [wrap64_in]) | refine DW_block ?_ | (refine DW_if ?_ ?_ ?_; (· (simp [hnt, d1, d2, d3, d4, w1, c1, q1, c2, q2, c3, q3, -Int.natCast_add]; done)); (try (rotate_left; (· (intro hc; (try simp [hnt, d1, d2, d3, d4, w1, c1, q1, c2, q2, c3, q3, -Int.natCast_add] at hc); done))))) | (refine DW_ret ?_; simp [Tryz.results48, hnt, d1, d2, d3, d4, w1, c1, q1, c2, q2, c3, q3, -Int.natCast_add]) | ((first | refine DW_exit ?_ | refine DW_skip ?_); simp [hnt, d1, d2, d3, d4, w1, c1, q1, c2, q2, c3, q3, -Int.natCast_add]) | (intro hc; (try simp [hnt, d1, d2, d3, d4, w1, c1, q1, c2, q2, c3, q3, -Int.natCast_add] at hc); (try (exfalso; omega))) | ((first | refine callP_mk (e1) ?_ | refine callP_mk (e2) ?_ | refine callP_mk (e3) ?_ | refine callP_mk (e4) ?_ | refine callP_mk (e5) ?_ | refine callP_mk (e6) ?_ | refine callP_mk (e7) ?_ | (refine callP_wk (e1) ?_ ?_; (· (simp; done))) | (refine callP_wk (e2) ?_ ?_; (· (simp; done))) | (refine callP_wk (e3) ?_ ?_; (· (simp; done))) | (refine callP_wk (e4) ?_ ?_; (· (simp; done))) | (refine callP_wk (e5) ?_ ?_; (· (simp; done))) | (refine callP_wk (e6) ?_ ?_; (· (simp; done))) | (refine callP_wk (e7) ?_ ?_; (· (simp; done)))); try simp [hnt, d1, d2, d3, d4, w1, c1, q1, c2, q2, c3, q3, -Int.natCast_add]) | (refine ⟨?_, ?_⟩; · omega) | omega | apply_assumption -exfalso -symm | (exfalso; omega)))
 rw [if_neg (by rw [c4]; simp)] at hC
 rw [c4] at e6
 by_cases c5 : 0 < m
 ·have q5 : (0 : Int) < (m : Int) := by omega
  rw [if_pos c5] at hC
  subst hC
  (repeat (first | refine DW_seq fun K hK => ?_ | (refine DW_r anBN448 Tryz.mixed (by kernel_rfl) ?_; simp [anBN448, hnt, d1, d2, d3, d4, w1, c1, q1, c2, q2, c3, q3, c5, q5, -Int.natCast_add]; try simp (disch := omega) only [wrap64_in]) | refine DW_block ?_ | (refine DW_if ?_ ?_ ?_; (· (simp [hnt, d1, d2, d3, d4, w1, c1, q1, c2, q2, c3, q3, c5, q5, -Int.natCast_add]; done)); (try (rotate_left; (· (intro hc; (try simp [hnt, d1, d2, d3, d4, w1, c1, q1, c2, q2, c3, q3, c5, q5, -Int.natCast_add] at hc); done))))) | (refine DW_ret ?_; simp [Tryz.results48, hnt, d1, d2, d3, d4, w1, c1, q1, c2, q2, c3, q3, c5, q5, -Int.natCast_add]) | ((first | refine DW_exit ?_ | refine DW_skip ?_); simp [hnt, d1, d2, d3, d4, w1, c1, q1, c2, q2, c3, q3, c5, q5, -Int.natCast_add]) | (intro hc; (try simp [hnt, d1, d2, d3, d4, w1, c1, q1, c2, q2, c3, q3, c5, q5, -Int.natCast_add] at hc); (try (exfalso; omega))) | ((first | refine callP_mk (e1) ?_ | refine callP_mk (e2) ?_ | refine callP_mk (e3) ?_ | refine callP_mk (e4) ?_ | refine callP_mk (e5) ?_ | refine callP_mk (e6) ?_ | refine callP_mk (e7) ?_ | (refine callP_wk (e1) ?_ ?_; (· (simp; done))) | (refine callP_wk (e2) ?_ ?_; (· (simp; done))) | (refine callP_wk (e3) ?_ ?_; (· (simp; done))) | (refine callP_wk (e4) ?_ ?_; (· (simp; done))) | (refine callP_wk (e5) ?_ ?_; (· (simp; done))) | (refine callP_wk (e6) ?_ ?_; (· (simp; done))) | (refine callP_wk (e7) ?_ ?_; (· (simp; done)))); try simp [hnt, d1, d2, d3, d4, w1, c1, q1, c2, q2, c3, q3, c5, q5, -Int.natCast_add]) | (refine ⟨?_, ?_⟩; · omega) | omega | apply_assumption -exfalso -symm | (exfalso; omega)))
 rw [if_neg c5] at hC
 have q5 : ¬ (0 : Int) < (m : Int) := by omega
 by_cases c6 : 2048 < T.size
 ·have q6 : (2048 : Int) < (T.size : Int) := by omega
  rw [if_pos c6] at hC
  subst hC
  (repeat (first | refine DW_seq fun K hK => ?_ | (refine DW_r anBN448 Tryz.mixed (by kernel_rfl) ?_; simp [anBN448, hnt, d1, d2, d3, d4, w1, c1, q1, c2, q2, c3, q3, c5, q5, c6, q6, -Int.natCast_add]; try simp (disch := omega) only [wrap64_in]) | refine DW_block ?_ | (refine DW_if ?_ ?_ ?_; (· (simp [hnt, d1, d2, d3, d4, w1, c1, q1, c2, q2, c3, q3, c5, q5, c6, q6, -Int.natCast_add]; done)); (try (rotate_left; (· (intro hc; (try simp [hnt, d1, d2, d3, d4, w1, c1, q1, c2, q2, c3, q3, c5, q5, c6, q6, -Int.natCast_add] at hc); done))))) | (refine DW_ret ?_; simp [Tryz.results48, hnt, d1, d2, d3, d4, w1, c1, q1, c2, q2, c3, q3, c5, q5, c6, q6, -Int.natCast_add]) | ((first | refine DW_exit ?_ | refine DW_skip ?_); simp [hnt, d1, d2, d3, d4, w1, c1, q1, c2, q2, c3, q3, c5, q5, c6, q6, -Int.natCast_add]) | (intro hc; (try simp [hnt, d1, d2, d3, d4, w1, c1, q1, c2, q2, c3, q3, c5, q5, c6, q6, -Int.natCast_add] at hc); (try (exfalso; omega))) | ((first | refine callP_mk (e1) ?_ | refine callP_mk (e2) ?_ | refine callP_mk (e3) ?_ | refine callP_mk (e4) ?_ | refine callP_mk (e5) ?_ | refine callP_mk (e6) ?_ | refine callP_mk (e7) ?_ | (refine callP_wk (e1) ?_ ?_; (· (simp; done))) | (refine callP_wk (e2) ?_ ?_; (· (simp; done))) | (refine callP_wk (e3) ?_ ?_; (· (simp; done))) | (refine callP_wk (e4) ?_ ?_; (· (simp; done))) | (refine callP_wk (e5) ?_ ?_; (· (simp; done))) | (refine callP_wk (e6) ?_ ?_; (· (simp; done))) | (refine callP_wk (e7) ?_ ?_; (· (simp; done)))); try simp [hnt, d1, d2, d3, d4, w1, c1, q1, c2, q2, c3, q3, c5, q5, c6, q6, -Int.natCast_add]) | (refine ⟨?_, ?_⟩; · omega) | omega | apply_assumption -exfalso -symm | (exfalso; omega)))
 rw [if_neg c6] at hC
 have q6 : ¬ (2048 : Int) < (T.size : Int) := by omega
 subst hC
 (repeat (first | refine DW_seq fun K hK => ?_ | (refine DW_r anBN448 Tryz.mixed (by kernel_rfl) ?_; simp [anBN448, hnt, d1, d2, d3, d4, w1, c1, q1, c2, q2, c3, q3, c5, q5, c6, q6, -Int.natCast_add]; try simp (disch := omega) only [wrap64_in]) | refine DW_block ?_ | (refine DW_if ?_ ?_ ?_; (· (simp [hnt, d1, d2, d3, d4, w1, c1, q1, c2, q2, c3, q3, c5, q5, c6, q6, -Int.natCast_add]; done)); (try (rotate_left; (· (intro hc; (try simp [hnt, d1, d2, d3, d4, w1, c1, q1, c2, q2, c3, q3, c5, q5, c6, q6, -Int.natCast_add] at hc); done))))) | (refine DW_ret ?_; simp [Tryz.results48, hnt, d1, d2, d3, d4, w1, c1, q1, c2, q2, c3, q3, c5, q5, c6, q6, -Int.natCast_add]) | ((first | refine DW_exit ?_ | refine DW_skip ?_); simp [hnt, d1, d2, d3, d4, w1, c1, q1, c2, q2, c3, q3, c5, q5, c6, q6, -Int.natCast_add]) | (intro hc; (try simp [hnt, d1, d2, d3, d4, w1, c1, q1, c2, q2, c3, q3, c5, q5, c6, q6, -Int.natCast_add] at hc); (try (exfalso; omega))) | ((first | refine callP_mk (e1) ?_ | refine callP_mk (e2) ?_ | refine callP_mk (e3) ?_ | refine callP_mk (e4) ?_ | refine callP_mk (e5) ?_ | refine callP_mk (e6) ?_ | refine callP_mk (e7) ?_ | (refine callP_wk (e1) ?_ ?_; (· (simp; done))) | (refine callP_wk (e2) ?_ ?_; (· (simp; done))) | (refine callP_wk (e3) ?_ ?_; (· (simp; done))) | (refine callP_wk (e4) ?_ ?_; (· (simp; done))) | (refine callP_wk (e5) ?_ ?_; (· (simp; done))) | (refine callP_wk (e6) ?_ ?_; (· (simp; done))) | (refine callP_wk (e7) ?_ ?_; (· (simp; done)))); try simp [hnt, d1, d2, d3, d4, w1, c1, q1, c2, q2, c3, q3, c5, q5, c6, q6, -Int.natCast_add]) | (refine ⟨?_, ?_⟩; · omega) | omega | apply_assumption -exfalso -symm | (exfalso; omega)))
end Go.Proofs.YtdgocjbakjamaaaGreat
end

section
set_option linter.unusedSectionVars false
/- tables of symbols -/


set_option linter.unusedSimpArgs false
set_option linter.unusedVariables false
namespace Go.Proofs.YtdgocjbakjamaaaGreat
open Go Go.Dm
variable [DMode]
attribute [local irreducible] DW callP callS
set_option maxRecDepth 100000

def keyL (b : Bool) (l : List ByteArray) : List DVal := l.map fun s => .agg [.bool b, .str s]
def upTo (n : Nat) : List DVal := (List.range n).map fun i : Nat => DVal.int .i64 (i : Int)
theorem keyL_cons (b : Bool) (s : ByteArray) (l : List ByteArray) : keyL b (s :: l) = .agg [.bool b, .str s] :: keyL b l := rfl
theorem keyL_len (b : Bool) (l : List ByteArray) : (keyL b l).length = l.length := by simp [keyL]
theorem keyL_snoc (b : Bool) (l : List ByteArray) (s : ByteArray) : keyL b (l ++ [s]) = keyL b l ++ [.agg [.bool b, .str s]] := by simp [keyL]
theorem upTo_succ (n : Nat) : upTo (n + 1) = upTo n ++ [.int .i64 (n : Int)] := by simp [upTo, List.range_succ]
theorem upTo_len (n : Nat) : (upTo n).length = n := by simp [upTo]
@[simp] theorem mxL_keyL (b : Bool) (l : List ByteArray) : mxL (keyL b l) = 0 := by
 induction l with
 | nil => rfl
 | cons a l ih => rw [keyL_cons]; simp [mxL, mx, ih]
@[simp] theorem mxL_upTo (n : Nat) : mxL (upTo n) = 0 := by
 unfold upTo
 induction List.range n with
 | nil => rfl
 | cons a l ih => simp [mxL, mx, ih]
theorem key_eq (a b : Bool) (s x : ByteArray) : eqCs (cellsK (.agg [.bool a, .str s])) (cellsK (.agg [.bool b, .str x])) = ((a == b) && (s == x)) := by
 simp [cellsK, eqCs, eqC]
theorem lookL_none {b : Bool} : ∀ {l : List ByteArray} {s : ByteArray}, ¬ s ∈ l → lookI (keyL b l) (.agg [.bool b, .str s]) = none
 | [], _, _ => rfl
 | x :: l, s, h => by
  have h1 : (s == x) = false := by simp; intro e; exact h (by simp [e])
  rw [keyL_cons, lookI, key_eq, h1, lookL_none (l := l) (s := s) fun hm => h (List.mem_cons_of_mem _ hm)]
  simp
theorem lookL_other {b : Bool} : ∀ {l : List ByteArray} {s : ByteArray}, lookI (keyL (!b) l) (.agg [.bool b, .str s]) = none
 | [], _ => rfl
 | x :: l, s => by
  rw [keyL_cons, lookI, key_eq, lookL_other (l := l) (s := s)]
  cases b <;> simp
theorem lookL_some {b : Bool} : ∀ {l : List ByteArray} {s : ByteArray}, s ∈ l → lookI (keyL b l) (.agg [.bool b, .str s]) = some (ixS l s)
 | [], _, h => by simp at h
 | x :: l, s, h => by
  unfold ixS
  rw [List.findIdx_cons, keyL_cons, lookI, key_eq]
  by_cases h1 : s = x
  ·subst h1; simp
  ·have h2 := lookL_some (b := b) (l := l) (s := s) (by simpa [h1] using h)
   have h1b : (s == x) = false := by simpa using h1
   rw [h2]
   simp [h1b, ixS]
theorem lookI_app : ∀ (a b : List DVal) (x : DVal), lookI (a ++ b) x = match lookI a x with | some j => some j | none => (lookI b x).map (· + a.length)
 | [], b, x => by simp [lookI]
 | k :: a, b, x => by
  rw [List.cons_append, lookI, lookI, lookI_app a b x]
  split
  ·rfl
  ·cases lookI a x with
   | some j => rfl
   | none => cases lookI b x <;> simp; omega
theorem keyL_ok (b : Bool) (l : List ByteArray) : (keyL b l).all (keyOK Tryz.prog 112) = true := by
 induction l with
 | nil => rfl
 | cons p l ih => rw [keyL_cons, List.all_cons, ih]; simp

def tabK (H L : List ByteArray) : List DVal := keyL false H ++ keyL true L
def tabV (H L : List ByteArray) : List DVal := upTo H.length ++ upTo L.length
abbrev dTab (H L : List ByteArray) : DVal := .ref [dStrs H, dStrs L, .mp (tabK H L) (tabV H L)]
@[simp] theorem mx_tabK (H L : List ByteArray) : mxL (tabK H L) = 0 := by simp [tabK]
@[simp] theorem mx_tabV (H L : List ByteArray) : mxL (tabV H L) = 0 := by simp [tabV]
theorem tab_ok (H L : List ByteArray) : (tabK H L).all (keyOK Tryz.prog 112) = true := by
 unfold tabK; rw [List.all_append, keyL_ok, keyL_ok]; rfl
def pickL (H L : List ByteArray) (b : Bool) : List ByteArray := if b then L else H
def numK (l : List ByteArray) (s : ByteArray) : Int := if s ∈ l then (ixS l s : Int) else 0
def numE (l : List ByteArray) (s : ByteArray) : Int := if s ∈ l then 0 else 4
theorem upTo_at {n i : Nat} (h : i < n) : (upTo n)[i]? = some (.int .i64 (i : Int)) := by
 unfold upTo
 rw [List.getElem?_map, List.getElem?_range h]
 rfl
theorem tab_look {H L : List ByteArray} {b : Bool} {s : ByteArray} (h : s ∈ pickL H L b) : ∃ j, lookI (tabK H L) (.agg [.bool b, .str s]) = some j ∧ (tabV H L)[j]? = some (.int .i64 (ixS (pickL H L b) s)) := by
 unfold tabK tabV
 rw [lookI_app]
 cases b with
 | false =>
  have h' : s ∈ H := h
  rw [lookL_some h']
  have hi := ixS_lt h'
  exact ⟨_, rfl, by rw [List.getElem?_append_left (by rw [upTo_len]; exact hi)]; exact upTo_at hi⟩
 | true =>
  have h' : s ∈ L := h
  have hi := ixS_lt h'
  have h0 : lookI (keyL false H) (.agg [.bool true, .str s]) = none := lookL_other (b := true)
  rw [h0, lookL_some h']
  refine ⟨_, rfl, ?_⟩
  show (upTo H.length ++ upTo L.length)[ixS L s + (keyL false H).length]? = _
  rw [keyL_len, List.getElem?_append_right (by rw [upTo_len]; omega), upTo_len, Nat.add_sub_cancel]
  exact upTo_at hi
theorem tab_none {H L : List ByteArray} {b : Bool} {s : ByteArray} (h : ¬ s ∈ pickL H L b) : lookI (tabK H L) (.agg [.bool b, .str s]) = none := by
 unfold tabK
 rw [lookI_app]
 cases b with
 | false =>
  have h' : ¬ s ∈ H := h
  rw [lookL_none h', show lookI (keyL true L) (.agg [.bool false, .str s]) = none from lookL_other (b := false)]
  rfl
 | true =>
  have h' : ¬ s ∈ L := h
  rw [show lookI (keyL false H) (.agg [.bool true, .str s]) = none from lookL_other (b := true), lookL_none h']
  rfl

def anSY087 : Ann := ⟨[], []⟩
theorem there87_pure (H L : List ByteArray) : DPure Tryz.prog 87 [dTab H L] (.bool true) := by
 refine DPure_introF [] (fn := Tryz.f87) Tryz.func87 rfl Tryz.call87 (by simp [Tryz.ntmps87]) (by simp [mx]) ?_
 intro hwf B hnt
 simp only [Tryz.ntmps87] at hnt
 have hA := an_is anSY087 Tryz.mixed (aj2 @anSY087.eq_1 Tryz.results87)
 clear hwf
 simp only [argS]
 exact go0 aj0 aj0 aj0
def anSY0208 : Ann := ⟨[], []⟩
theorem number208_pure (H L : List ByteArray) (b : Bool) (s : ByteArray) : DPure Tryz.prog 208 [dTab H L, .agg [.bool b, .str s]] (.tup [.int .i64 (numK (pickL H L b) s), .int .i64 (numE (pickL H L b) s)]) := by
 refine DPure_introF [] (fn := Tryz.f208) Tryz.func208 rfl Tryz.call208 (by simp [Tryz.ntmps208]) (by simp [mx]) ?_
 intro hwf B hnt
 simp only [Tryz.ntmps208] at hnt
 have hA := an_is anSY0208 Tryz.mixed (aj2 @anSY0208.eq_1 Tryz.results208)
 clear hwf
 simp only [argS]
 have e1 := there87_pure H L
 have hok := tab_ok H L
 unfold numK numE
 by_cases h : s ∈ pickL H L b
 ·obtain ⟨j, h1, h2⟩ := tab_look h
  rw [if_pos h, if_pos h]
  exact go0 (aj1 e1) aj0 (aj3 hok h1 h2)
 ·have h1 := tab_none h
  rw [if_neg h, if_neg h]
  exact go0 (aj1 e1) aj0 (aj2 hok h1)
def anSY0135 : Ann := ⟨[], []⟩
theorem nt135_pure (H L : List ByteArray) (s : ByteArray) : DPure Tryz.prog 135 [dTab H L, .str s] (.tup [.int .i64 (numK H s), .int .i64 (numE H s)]) := by
 refine DPure_introF [] (fn := Tryz.f135) Tryz.func135 rfl Tryz.call135 (by simp [Tryz.ntmps135]) (by simp [mx]) ?_
 intro hwf B hnt
 simp only [Tryz.ntmps135] at hnt
 have hA := an_is anSY0135 Tryz.mixed (aj2 @anSY0135.eq_1 Tryz.results135)
 clear hwf
 simp only [argS]
 have e1 := number208_pure H L false s
 rw [show pickL H L false = H from rfl] at e1
 exact go0 (aj1 e1) aj0 aj0
def anSY0136 : Ann := ⟨[], []⟩
theorem label136_pure (H L : List ByteArray) (s : ByteArray) : DPure Tryz.prog 136 [dTab H L, .str s] (.tup [.int .i64 (numK L s), .int .i64 (numE L s)]) := by
 refine DPure_introF [] (fn := Tryz.f136) Tryz.func136 rfl Tryz.call136 (by simp [Tryz.ntmps136]) (by simp [mx]) ?_
 intro hwf B hnt
 simp only [Tryz.ntmps136] at hnt
 have hA := an_is anSY0136 Tryz.mixed (aj2 @anSY0136.eq_1 Tryz.results136)
 clear hwf
 simp only [argS]
 have e1 := number208_pure H L true s
 rw [show pickL H L true = L from rfl] at e1
 exact go0 (aj1 e1) aj0 aj0
def symS (H L : List ByteArray) (x : Nd) : Sym := if x.k = 3 then (if x.s ∈ L then ⟨true, ixS L x.s⟩ else ⟨false, 0⟩) else if x.k = 2 then (if x.s ∈ H then ⟨false, ixS H x.s⟩ else ⟨false, 0⟩) else ⟨false, 0⟩
def symE (H L : List ByteArray) (x : Nd) : Int := if x.k = 3 then numE L x.s else if x.k = 2 then numE H x.s else 2
def anSY068 : Ann := ⟨[], []⟩
set_option maxHeartbeats 1000000 in
theorem sym68_pure (H L : List ByteArray) (x : Nd) : DPure Tryz.prog 68 [dTab H L, .agg (dNd x)] (.tup [.agg (dSym (symS H L x)), .int .i64 (symE H L x)]) := by
 refine DPure_introF [] (fn := Tryz.f68) Tryz.func68 rfl Tryz.call68 (by simp [Tryz.ntmps68]) (by simp [mx]) ?_
 intro hwf B hnt
 simp only [Tryz.ntmps68] at hnt
 have hA := an_is anSY068 Tryz.mixed (aj2 @anSY068.eq_1 Tryz.results68)
 clear hwf
 simp only [argS]
 have e1 := there87_pure H L
 have e2 := nt135_pure H L x.s
 have e3 := label136_pure H L x.s
 unfold symS symE
 by_cases k3 : x.k = 3
 ·by_cases h : x.s ∈ L
  ·simp only [numK, numE, h, if_true] at e3
   exact go0 (aj3 e1 e2 e3) aj0 (aj5 @dNd.eq_1 @dSym.eq_1 k3 h @numE.eq_1)
  ·simp only [numK, numE, h, if_false] at e3
   exact go0 (aj3 e1 e2 e3) aj0 (aj5 @dNd.eq_1 @dSym.eq_1 k3 h @numE.eq_1)
 ·have k3' : (x.k == 3) = false := by simpa using k3
  by_cases k2 : x.k = 2
  ·by_cases h : x.s ∈ H
   ·simp only [numK, numE, h, if_true] at e2
    exact go0 (aj3 e1 e2 e3) aj0 (aj7 @dNd.eq_1 @dSym.eq_1 k3 k3' k2 h @numE.eq_1)
   ·simp only [numK, numE, h, if_false] at e2
    exact go0 (aj3 e1 e2 e3) aj0 (aj7 @dNd.eq_1 @dSym.eq_1 k3 k3' k2 h @numE.eq_1)
  ·have k2' : (x.k == 2) = false := by simpa using k2
   exact go0 (aj3 e1 e2 e3) aj0 (aj6 @dNd.eq_1 @dSym.eq_1 k3 k3' k2 k2')
def anSY066 : Ann := ⟨[], []⟩
theorem names66_pure (H L : List ByteArray) : DPure Tryz.prog 66 [dTab H L] (dStrs H) := by
 refine DPure_introF [] (fn := Tryz.f66) Tryz.func66 rfl Tryz.call66 (by simp [Tryz.ntmps66]) (by simp [mx]) ?_
 intro hwf B hnt
 simp only [Tryz.ntmps66] at hnt
 have hA := an_is anSY066 Tryz.mixed (aj2 @anSY066.eq_1 Tryz.results66)
 clear hwf
 simp only [argS]
 have e1 := there87_pure H L
 have e2 := cloneS_pure H
 exact go0 (aj2 e1 e2) aj0 aj0

end Go.Proofs.YtdgocjbakjamaaaGreat
end

section
set_option linter.unusedSectionVars false
/- the program's text of a graph -/

set_option linter.unusedSimpArgs false
set_option linter.unusedVariables false
namespace Go.Proofs.YtdgocjbakjamaaaGreat
open Go Go.Dm
variable [DMode]
attribute [local irreducible] DW callP callS
set_option maxRecDepth 100000

def bldO (i j : Nat) (T : ByteArray) : List Ent := if T.size = 0 then [⟨i, 1, .row 299 2 32 [[.nilp, .nilsl]]⟩] else [⟨i, 1, .row 299 2 32 [[.rx i 1 2 0 0, .osl j 1]]⟩, ⟨j, 1, .row 5 1 1 (bytesD T)⟩]
theorem bldO_none {i j : Nat} {T : ByteArray} (h : T.size = 0) : bldO i j T = [⟨i, 1, .row 299 2 32 [[.nilp, .nilsl]]⟩] := if_pos h
theorem bldO_some {i j : Nat} {T : ByteArray} (h : T.size ≠ 0) : bldO i j T = [⟨i, 1, .row 299 2 32 [[.rx i 1 2 0 0, .osl j 1]]⟩, ⟨j, 1, .row 5 1 1 (bytesD T)⟩] := if_neg h
theorem size0 {T : ByteArray} (h : T.size = 0) : T = ⟨#[]⟩ := by
 obtain ⟨a⟩ := T
 have : a = #[] := Array.eq_empty_of_size_eq_zero h
 rw [this]
theorem empty_app (x : ByteArray) : (⟨#[]⟩ : ByteArray) ++ x = x := by
 apply bytes_ext
 simp [ByteArray.data_append]
end Go.Proofs.YtdgocjbakjamaaaGreat
end

section
set_option linter.unusedSectionVars false
/- grammars: the program's questions, its texts -/




set_option linter.unusedSimpArgs false
set_option linter.unusedVariables false
namespace Go.Proofs.YtdgocjbakjamaaaGreat
open Go Go.Dm
variable [DMode]
attribute [local irreducible] DW callP callS
set_option maxRecDepth 100000

def anBN2191 : Ann := ⟨[], []⟩
theorem headed191_pure (s : ByteArray) : DPure Tryz.prog 191 [.str s] (.bool (txtOK 2 s)) := by
 refine DPure_introF [] (fn := Tryz.f191) Tryz.func191 rfl Tryz.call191 (by simp [Tryz.ntmps191]) (by simp [mx]) ?_
 intro hwf B hnt
 simp only [Tryz.ntmps191] at hnt
 have hA := an_is anBN2191 Tryz.mixed (aj2 @anBN2191.eq_1 Tryz.results191)
 clear hwf
 simp only [argS]
 have e1 := check112_pure 2 (.inl rfl) s
 simp only [dNode] at e1
 cases h : txtOK 2 s
 ·rw [h] at e1
  exact go0 (aj1 e1) aj0 aj0
 ·rw [h] at e1
  exact go0 (aj1 e1) aj0 aj0
def anBN2256 : Ann := ⟨[], []⟩
theorem indexFuncR_pure (g : FuncId) (us cs : List DVal) (l : List Rul) (q : Rul → Bool) (hq : ∀ x ∈ l, DPure Tryz.prog g (us ++ [.agg (dRul x)] ++ cs) (.bool (q x))) :
  DPure Tryz.prog 256 [dRuls l, .fn (.func g) us cs] (.int .i64 (if l.any q then ((l.findIdx q : Nat) : Int) else -1)) := by
 refine DPure_introF [] (fn := Tryz.f256) Tryz.func256 rfl Tryz.call256 (by simp [Tryz.ntmps256]) (by simp [mx]) ?_
 intro hwf B hnt
 simp only [Tryz.ntmps256] at hnt
 have hA := an_is anBN2256 Tryz.mixed (aj2 @anBN2256.eq_1 Tryz.results256)
 have hw1 := len_ruls hwf.1
 clear hwf
 simp only [argS]
 (refine go1 aj0 aj0 aj0 ?_; intros; refine mk_i ?_)
 refine DW_loop (X := {k : Nat // k ≤ l.length ∧ ∀ i x, i < k → l[i]? = some x → q x = false}) (fun x => ⟨[(0, dRuls l), (1, .fn (.func g) us cs), (7, .int .i64 l.length), (8, .int .i64 x.1)], []⟩) (fun x => l.length - x.1) ⟨0, by simp⟩ (Sub.lit (by simp)) ?_
 rintro ⟨k, hk, hno⟩
 by_cases hlt : k < l.length
 ·obtain ⟨x, hx, hx', hxm⟩ := at_lt' hlt
  have hqx := hq x hxm
  simp only [dRul, List.append_assoc, List.cons_append, List.nil_append] at hqx
  cases hb : q x
  ·rw [hb] at hqx
   have hno' : ∀ i y, i < k + 1 → l[i]? = some y → q y = false := by
    intro i y hi hy
    by_cases hik : i = k
    ·subst hik; rw [hx] at hy; simp only [Option.some.injEq] at hy; subst hy; exact hb
    ·exact hno i y (by omega) hy
   (refine go1 (aj1 hqx) aj0 (aj3 @dRul.eq_1 hlt hx') ?_; intros; refine mk_i ?_)
   exact Again.mk ⟨k + 1, by omega, hno'⟩ (Sub.lit (by simp [])) (by simp; omega)
   skip
  ·rw [hb] at hqx
   have hany : l.any q = true := List.any_eq_true.2 ⟨x, hxm, hb⟩
   have hidx : l.findIdx q = k := by
    rw [List.findIdx_eq hlt]
    refine ⟨by rw [hx']; exact hb, fun i hi => ?_⟩
    exact hno i _ hi (List.getElem?_eq_getElem (by omega))
   exact go0 (aj1 hqx) aj0 (aj5 @dRul.eq_1 hlt hx' hany hidx)
 ·have hkk : k = l.length := by omega
  have hany : l.any q = false := by
   rw [List.any_eq_false]
   intro x hx
   obtain ⟨i, hi, rfl⟩ := List.getElem_of_mem hx
   rw [hno i _ (by omega) (List.getElem?_eq_getElem hi)]
   simp
  (repeat (first | refine DW_seq fun K hK => ?_ | (refine DW_r anBN2256 Tryz.mixed (by kernel_rfl) ?_; simp [anBN2256, hnt, dRul, hkk, hany]; try simp (disch := omega) only [wrap64_in]) | refine DW_block ?_ | (refine DW_if ?_ ?_ ?_; (· (simp [hnt, dRul, hkk, hany]; done)); (try (rotate_left; (· (intro hc; (try simp [hnt, dRul, hkk, hany] at hc); done))))) | (refine DW_ret ?_; simp [Tryz.results256, hnt, dRul, hkk, hany]) | ((first | refine DW_exit ?_ | refine DW_skip ?_); simp [hnt, dRul, hkk, hany]) | (intro hc; (try simp [hnt, dRul, hkk, hany] at hc); (try (exfalso; omega))) | ((first | refine callP_mk (hqx) ?_ | (refine callP_wk (hqx) ?_ ?_; (· (simp; done)))); try simp [hnt, dRul, hkk, hany]) | (refine ⟨?_, ?_⟩; · omega) | omega | apply_assumption -exfalso -symm | (exfalso; omega)))
def anBN2188 : Ann := ⟨[], []⟩
theorem containsFuncR_pure (g : FuncId) (us cs : List DVal) (l : List Rul) (q : Rul → Bool) (hq : ∀ x ∈ l, DPure Tryz.prog g (us ++ [.agg (dRul x)] ++ cs) (.bool (q x))) :
  DPure Tryz.prog 188 [dRuls l, .fn (.func g) us cs] (.bool (l.any q)) := by
 refine DPure_introF [] (fn := Tryz.f188) Tryz.func188 rfl Tryz.call188 (by simp [Tryz.ntmps188]) (by simp [mx]) ?_
 intro hwf B hnt
 simp only [Tryz.ntmps188] at hnt
 have hA := an_is anBN2188 Tryz.mixed (aj2 @anBN2188.eq_1 Tryz.results188)
 simp only [argS]
 have hi := indexFuncR_pure g us cs l q hq
 have hge : (0 : Int) ≤ (l.findIdx q : Nat) := by omega
 cases hb : l.any q
 ·rw [hb] at hi
  exact go0 (aj1 hi) aj0 (aj1 hb)
 ·rw [hb] at hi
  exact go0 (aj1 hi) aj0 (aj1 hb)

def badR (r : Rul) : Bool := !(txtOK 2 r.h && wholeB r.b)
def anBN2190 : Ann := ⟨[], []⟩
theorem ord3_pure (r : Rul) (hs : r.b.length ≤ 1310720) : DPure Tryz.prog 190 [.agg (dRul r)] (.bool (badR r)) := by
 refine DPure_introF [] (fn := Tryz.f190) Tryz.func190 rfl Tryz.call190 (by simp [Tryz.ntmps190]) (by simp [mx]) ?_
 intro hwf B hnt
 simp only [Tryz.ntmps190] at hnt
 have hA := an_is anBN2190 Tryz.mixed (aj2 @anBN2190.eq_1 Tryz.results190)
 clear hwf
 simp only [argS]
 have e1 := headed191_pure r.h
 unfold badR
 cases h1 : txtOK 2 r.h
 ·rw [h1] at e1
  exact go0 (aj1 e1) aj0 (aj1 @dRul.eq_1)
 ·rw [h1] at e1
  cases h2 : wholeB r.b
  ·have e2 := height94_bad r.b hs h2
   exact go0 (aj2 e1 e2) aj0 (aj1 @dRul.eq_1)
  ·obtain ⟨t, ht, hb⟩ := whole_tree h2
   have e2 := height94_tree t ht (by rw [← hb]; exact hs)
   rw [← hb] at e2
   have hp : 1 ≤ htT t := by cases t; rw [htT_mk]; omega
   have hne : ((htT t : Int) == 0) = false := by simp; omega
   exact go0 (aj2 e1 e2) aj0 (aj2 @dRul.eq_1 hne)
def anBN2197 : Ann := ⟨[], []⟩
theorem ord7_pure (h : ByteArray) (t : RT) (ht : okT t = true) (hs : (flat t).length ≤ 1310720) : DPure Tryz.prog 197 [.agg (dRul ⟨h, flat t⟩)] (.bool (decide (16 < htT t))) := by
 refine DPure_introF [] (fn := Tryz.f197) Tryz.func197 rfl Tryz.call197 (by simp [Tryz.ntmps197]) (by simp [mx]) ?_
 intro hwf B hnt
 simp only [Tryz.ntmps197] at hnt
 have hA := an_is anBN2197 Tryz.mixed (aj2 @anBN2197.eq_1 Tryz.results197)
 clear hwf
 simp only [argS]
 have e2 := height94_tree t ht hs
 have hd : decide (16 < htT t) = decide ((16 : Int) < (htT t : Int)) := decide_eq_decide.2 (by omega)
 rw [hd]
 exact go0 (aj1 e2) aj0 (aj1 @dRul.eq_1)
def anBN2187 : Ann := ⟨[], []⟩
theorem ord1_pure (f : FuncId) (g : List Rul) (q : Rul → Bool) (hq : ∀ x ∈ g, DPure Tryz.prog f [.agg (dRul x)] (.bool (q x))) : DPure Tryz.prog 187 [dRuls g, .ref [.fn (.func f) [] []]] (.bool (g.any q)) := by
 refine DPure_introF [] (fn := Tryz.f187) Tryz.func187 rfl Tryz.call187 (by simp [Tryz.ntmps187]) (by simp [mx]) ?_
 intro hwf B hnt
 simp only [Tryz.ntmps187] at hnt
 have hA := an_is anBN2187 Tryz.mixed (aj2 @anBN2187.eq_1 Tryz.results187)
 clear hwf
 simp only [argS]
 have e1 := containsFuncR_pure f [] [] g q fun x hx => by simpa using hq x hx
 exact go0 (aj1 e1) aj0 aj0
def anBN2189 : Ann := ⟨[], []⟩
theorem ord2_pure (g : List Rul) : DPure Tryz.prog 189 [dRuls g] (.bool (decide (g.length < 1) || decide (64 < g.length))) := by
 refine DPure_introF [] (fn := Tryz.f189) Tryz.func189 rfl Tryz.call189 (by simp [Tryz.ntmps189]) (by simp [mx]) ?_
 intro hwf B hnt
 simp only [Tryz.ntmps189] at hnt
 have hA := an_is anBN2189 Tryz.mixed (aj2 @anBN2189.eq_1 Tryz.results189)
 clear hwf
 simp only [argS]
 have h1 : decide (g.length < 1) = decide ((g.length : Int) < 1) := decide_eq_decide.2 (by omega)
 have h2 : decide (64 < g.length) = decide ((64 : Int) < (g.length : Int)) := decide_eq_decide.2 (by omega)
 rw [h1, h2]
 by_cases c : (g.length : Int) < 1
 ·exact go0 aj0 aj0 (aj1 c)
 ·exact go0 aj0 aj0 (aj1 c)
def anBN2198 : Ann := ⟨[], []⟩
theorem ord8_pure (g : List Rul) (hn : (namesK 2 g).length ≤ 9223372036854775807) : DPure Tryz.prog 198 [dRuls g] (.bool (decide (0 < (missL g).length))) := by
 refine DPure_introF [] (fn := Tryz.f198) Tryz.func198 rfl Tryz.call198 (by simp [Tryz.ntmps198]) (by simp [mx]) ?_
 intro hwf B hnt
 simp only [Tryz.ntmps198] at hnt
 have hA := an_is anBN2198 Tryz.mixed (aj2 @anBN2198.eq_1 Tryz.results198)
 clear hwf
 simp only [argS]
 have e1 := missing194_pure g hn
 have h2 : decide (0 < (missL g).length) = decide ((0 : Int) < ((missL g).length : Int)) := decide_eq_decide.2 (by omega)
 rw [h2]
 exact go0 (aj1 e1) aj0 aj0
def anBN2193 : Ann := ⟨[], []⟩
theorem ord4_pure (g : List Rul) (hl : g.length ≤ 64) (hs : SmlG g) : DPure Tryz.prog 193 [dRuls g] (.bool (decide (16 < (headsL g).length + (missL g).length))) := by
 refine DPure_introF [] (fn := Tryz.f193) Tryz.func193 rfl Tryz.call193 (by simp [Tryz.ntmps193]) (by simp [mx]) ?_
 intro hwf B hnt
 simp only [Tryz.ntmps193] at hnt
 have hA := an_is anBN2193 Tryz.mixed (aj2 @anBN2193.eq_1 Tryz.results193)
 clear hwf
 simp only [argS]
 have n2 := names_le (k := 2) hs
 have e1 := missing194_pure g (by omega)
 have e2 := heads64_pure g
 have b1 := headsL_len g
 have b2 : (missL g).length ≤ 100000000 := by
  have := uniqS_len (namesK 2 g)
  have := List.length_filter_le (fun s => !decide (s ∈ headsL g)) (uniqS (namesK 2 g))
  unfold missL
  omega
 obtain ⟨H, hH⟩ : ∃ H, H = headsL g := ⟨_, rfl⟩
 obtain ⟨m, hm⟩ : ∃ m, m = (missL g).length := ⟨_, rfl⟩
 rw [← hH] at e2 b1
 rw [← hm] at e1 b2
 rw [← hH, ← hm]
 have h2 : decide (16 < H.length + m) = decide ((16 : Int) < (H.length : Int) + (m : Int)) := decide_eq_decide.2 (by omega)
 rw [h2]
 have w1 : IntKind.i64.wrap ((H.length : Int) + (m : Int)) = (H.length : Int) + (m : Int) := wrap64_in (by omega) (by omega)
 exact go0 (aj2 e1 e2) aj0 (aj1 w1)
def anBN259 : Ann := ⟨[], [⟨4, [5], [], []⟩]⟩
theorem occ59_pure (g : List Rul) (hs : SmlG g) (hl : g.length ≤ 64) : DPure Tryz.prog 59 [dRuls g] (.int .i64 (occG g)) := by
 refine DPure_introF [] (fn := Tryz.f59) Tryz.func59 rfl Tryz.call59 (by simp [Tryz.ntmps59]) (by simp [mx]) ?_
 intro hwf B hnt
 simp only [Tryz.ntmps59] at hnt
 have hA := an_is anBN259 Tryz.mixed (aj2 @anBN259.eq_1 Tryz.results59)
 clear hwf
 simp only [argS]
 have ho := occG_le hs
 (refine go1 aj0 aj0 aj0 ?_; intros; refine mk_i ?_)
 refine DW_loop (X := {i : Nat // i ≤ g.length}) (fun i => ⟨[(0, dRuls g), (3, .int .i64 (occG (g.take i.1))), (6, dRuls g), (7, .int .i64 g.length), (8, .int .i64 i.1)], []⟩) (fun i => g.length - i.1) ⟨0, by omega⟩ (Sub.lit (by simp [occG])) ?_
 rintro ⟨i, hi⟩
 simp only
 by_cases hlt : i < g.length
 ·obtain ⟨r, hr, hr', hrm⟩ := at_lt' hlt
  have e1 := occ13_pure r.b
  have h1 := occG_take hr
  have h2 := occG_take_le g (i + 1)
  have h3 := occN_le r.b
  have w1 : IntKind.i64.wrap ((occG (g.take i) : Int) + (occN r.b : Int)) = (occG (g.take (i + 1)) : Int) := by rw [wrap64_in (by omega) (by omega)]; omega
  have w2 : IntKind.i64.wrap ((i : Int) + 1) = (i : Int) + 1 := wrap64_in (by omega) (by omega)
  (refine go1 (aj1 e1) aj0 (aj6 @dRul.eq_1 hlt hr hr' w1 w2) ?_; intros; refine mk_i ?_)
  refine Again.mk ⟨i + 1, by omega⟩ (Sub.lit (by simp)) (by simp; omega)
  skip
 ·have hkk : i = g.length := by omega
  subst hkk
  rw [List.take_length]
  exact go0 aj0 aj0 aj0
def anBN2196 : Ann := ⟨[], []⟩
theorem ord6_pure (g : List Rul) (hs : SmlG g) (hl : g.length ≤ 64) : DPure Tryz.prog 196 [dRuls g] (.bool (decide (64 < occG g))) := by
 refine DPure_introF [] (fn := Tryz.f196) Tryz.func196 rfl Tryz.call196 (by simp [Tryz.ntmps196]) (by simp [mx]) ?_
 intro hwf B hnt
 simp only [Tryz.ntmps196] at hnt
 have hA := an_is anBN2196 Tryz.mixed (aj2 @anBN2196.eq_1 Tryz.results196)
 clear hwf
 simp only [argS]
 have e1 := occ59_pure g hs hl
 have h2 : decide (64 < occG g) = decide ((64 : Int) < (occG g : Int)) := decide_eq_decide.2 (by omega)
 rw [h2]
 exact go0 (aj1 e1) aj0 aj0

def printOK (t : RT) : Bool := decide ((flat t).length ≤ 2048) && decide (boundI t = 0)
def printD (t : RT) : DVal := if (flat t).length ≤ 2048 then (if boundI t = 0 then .tup [.str (txtT t), .int .i64 0] else .tup [.str ⟨#[]⟩, .int .i64 (boundI t)]) else .tup [.str ⟨#[]⟩, .int .i64 3]
def anBN2257 : Ann := ⟨[], []⟩
theorem print257_pure (t : RT) (ht : okT t = true) : DPure Tryz.prog 257 [dNds (flat t)] (printD t) := by
 unfold printD
 by_cases hl : (flat t).length ≤ 2048
 ·rw [if_pos hl]
  have e1 := check23_tree t ht hl
  have e2 := text110_pure _ t rfl ht (by omega)
  obtain ⟨b, hb⟩ : ∃ b, b = flat t := ⟨_, rfl⟩
  rw [← hb] at e1 e2 ⊢
  by_cases h0 : boundI t = 0
  ·rw [if_pos h0]
   rw [h0] at e1
   refine DPure_introF [] (fn := Tryz.f257) Tryz.func257 rfl Tryz.call257 (by simp [Tryz.ntmps257]) (by simp [mx]) ?_
   intro hwf B hnt
   simp only [Tryz.ntmps257] at hnt
   have hA := an_is anBN2257 Tryz.mixed (aj2 @anBN2257.eq_1 Tryz.results257)
   clear hwf
   simp only [argS]
   exact go0 (aj2 e1 e2) aj0 aj0
  ·rw [if_neg h0]
   have h0' : (boundI t != 0) = true := by simpa using h0
   refine DPure_introF [] (fn := Tryz.f257) Tryz.func257 rfl Tryz.call257 (by simp [Tryz.ntmps257]) (by simp [mx]) ?_
   intro hwf B hnt
   simp only [Tryz.ntmps257] at hnt
   have hA := an_is anBN2257 Tryz.mixed (aj2 @anBN2257.eq_1 Tryz.results257)
   clear hwf
   simp only [argS]
   have z0 : (⟨#[]⟩ : ByteArray).size ≤ maxLen := Nat.zero_le _
   exact go0 (aj1 e1) aj0 (aj3 h0 h0' z0)
 ·rw [if_neg hl]
  have e1 := check23_long (flat t) (by omega)
  obtain ⟨b, hb⟩ : ∃ b, b = flat t := ⟨_, rfl⟩
  rw [← hb] at e1 ⊢
  refine DPure_introF [] (fn := Tryz.f257) Tryz.func257 rfl Tryz.call257 (by simp [Tryz.ntmps257]) (by simp [mx]) ?_
  intro hwf B hnt
  simp only [Tryz.ntmps257] at hnt
  have hA := an_is anBN2257 Tryz.mixed (aj2 @anBN2257.eq_1 Tryz.results257)
  clear hwf
  simp only [argS]
  have z0 : (⟨#[]⟩ : ByteArray).size ≤ maxLen := Nat.zero_le _
  exact go0 (aj1 e1) aj0 (aj1 z0)
end Go.Proofs.YtdgocjbakjamaaaGreat
end

section
set_option linter.unusedSectionVars false
/- grammars: the program's text -/


set_option linter.unusedSimpArgs false
set_option linter.unusedVariables false
namespace Go.Proofs.YtdgocjbakjamaaaGreat
open Go Go.Dm
variable [DMode]
attribute [local irreducible] DW callP callS
set_option maxRecDepth 100000

theorem stringKeep_spec (x : ByteArray) (hx : x.size ≠ 0) : DSpec Tryz.prog (.func 259) [.rx 0 0 2 0 0] [⟨0, 0, .row 299 2 32 [[.rx 0 0 2 0 0, .osl 1 0]]⟩, ⟨1, 0, .row 5 1 1 (bytesD x)⟩] (.str x) [⟨0, 0, .row 299 2 32 [[.rx 0 0 2 0 0, .sl 1 1 (bytesD x)]]⟩] :=
 builderString_spec2k Tryz.bldString bldExtra Tryz.call259 32 x hx
def anBN5260 : Ann := ⟨[], []⟩
theorem len260_spec (x : ByteArray) : DSpec Tryz.prog (.func 260) [.rx 0 0 2 0 0] [⟨0, 0, .row 299 2 32 [[.rx 0 0 2 0 0, .sl 1 1 (bytesD x)]]⟩] (.int .i64 x.size) [⟨0, 0, .row 299 2 32 [[.rx 0 0 2 0 0, .sl 1 1 (bytesD x)]]⟩] := by
 refine DSpec_intro [] [(0, 0, 0)] (fn := Tryz.f260) Tryz.func260 rfl Tryz.call260 (by simp [Tryz.ntmps260]) (by simp) (by simp [mx_bytesD]) ?_
 intro hwf B hnt
 simp only [Tryz.ntmps260] at hnt
 have hA := an_is anBN5260 Tryz.mixed (aj2 @anBN5260.eq_1 Tryz.results260)
 clear hwf
 simp only [argS]
 have h1 := bytesD_len x
 have h2 := mx_bytesD x
 obtain ⟨D, hD⟩ : ∃ D, D = bytesD x := ⟨_, rfl⟩
 rw [← hD] at h1 h2 ⊢
 exact go0 aj0 aj0 (aj1 h1)

theorem ruleT_pos (p : ByteArray × RT) : (ruleT p).size ≠ 0 := by
 unfold ruleT
 simp only [ByteArray.size_append]
 have z3 : (⟨#[32, 61, 32]⟩ : ByteArray).size = 3 := rfl
 omega
def okText (gt : GT) : Bool := gt.all (fun p => printOK p.2) && decide ((textG gt).size ≤ 2048)
def textR (gt : GT) : ByteArray := if gt.all (fun p => printOK p.2) then textG gt else ⟨#[]⟩
theorem textG_pos {gt : GT} (h : 1 ≤ gt.length) : (textG gt).size ≠ 0 := by
 have h1 := textG_take (List.getElem?_eq_getElem (show 0 < gt.length by omega))
 have h2 := textG_take_le gt 1
 rw [h1, ByteArray.size_append] at h2
 have := ruleT_pos (gt[0]'(by omega))
 omega
def anBN5200 : Ann := ⟨[29, 31, 32], [⟨1, [4], [], []⟩, ⟨4, [6], [], []⟩]⟩
set_option maxHeartbeats 4000000 in
theorem text200_pure (gt : GT) (hk : OkG gt) (hs : SmlG (mkG gt)) (h1 : 1 ≤ gt.length) (hl : gt.length ≤ 64) : DPure Tryz.prog 200 [dRuls (mkG gt)] (.tup [.str (textR gt), .bool (okText gt)]) := by
 refine DPure_introF [] (fn := Tryz.f200) Tryz.func200 rfl Tryz.call200 (by simp [Tryz.ntmps200]) (by simp [mx]) ?_
 intro hwf B hnt
 simp only [Tryz.ntmps200] at hnt
 have hA := an_is anBN5200 Tryz.mixed (aj2 @anBN5200.eq_1 Tryz.results200)
 clear hwf
 simp only [argS]
 have hml := mkG_len gt
 have hat := fun i p => mkG_at (gt := gt) (i := i) (p := p)
 have hsm := fun p => small_gt hs (p := p)
 have hts := textG_size hk hs
 have hrs := fun p => ruleT_size hk hs (p := p)
 obtain ⟨g, hg⟩ : ∃ g, g = mkG gt := ⟨_, rfl⟩
 rw [← hg] at hml hat ⊢
 clear hs hg
 obtain ⟨R, hR⟩ : ∃ R, R = textR gt := ⟨_, rfl⟩
 obtain ⟨O, hO⟩ : ∃ O, O = okText gt := ⟨_, rfl⟩
 rw [← hR, ← hO]
 have z3 : (⟨#[32, 61, 32]⟩ : ByteArray).size = 3 := rfl
 have z4 : (⟨#[32, 59, 10]⟩ : ByteArray).size = 3 := rfl
 have m3 : 3 ≤ maxLen := by decide
 have m1 : 1 ≤ maxLen := by decide
 have mbig : 3000000000 ≤ maxLen := by decide
 have z0 : (⟨#[]⟩ : ByteArray).size ≤ maxLen := Nat.zero_le _
 refine DW_seq fun K0 hK0 => ?_
 (first | refine DW_seq fun K hK => ?_ | (refine DW_r anBN5200 Tryz.mixed (by kernel_rfl) ?_; simp [anBN5200, hnt, z0]; try simp (disch := omega) only [wrap64_in]) | refine DW_block ?_ | (refine DW_if ?_ ?_ ?_; (· (simp [hnt, z0]; done)); (try (rotate_left; (· (intro hc; (try simp [hnt, z0] at hc); done))))) | (refine DW_ret ?_; simp [Tryz.results200, hnt, z0]) | ((first | refine DW_exit ?_ | refine DW_skip ?_); simp [hnt, z0]) | (intro hc; (try simp [hnt, z0] at hc); (try (exfalso; omega))) | (refine ⟨?_, ?_⟩; · omega) | omega | apply_assumption -exfalso -symm | (exfalso; omega))
 apply hK0
 refine DW_seq fun K1 hK1 => ?_
 refine DW_allocT (bs := 32) (k := 2) (z := [.nilp, .nilsl]) (by simp [hnt]) (by simp) (by rfl) rfl (by decide) (fun r hr => ?_)
 simp
 apply hK1
 (refine go1 aj0 aj0 aj0 ?_; intros; refine mk_i ?_)
 refine DW_loop (X := {i : Nat // i ≤ gt.length ∧ (gt.take i).all (fun p => printOK p.2) = true}) (fun i => ⟨[(0, dRuls g), (4, .rx 4 1 2 0 0), (9, dRuls g), (10, .int .i64 gt.length), (11, .int .i64 i.1)], bldO 4 50 (textG (gt.take i.1))⟩) (fun i => gt.length - i.1) ⟨0, by simp⟩ (Sub.lit (by simp only [List.take_zero, show textG [] = ⟨#[]⟩ from rfl, bldO_none (T := ⟨#[]⟩) rfl]; simp [hml])) ?_
 rintro ⟨i, hi, hall⟩
 simp only
 by_cases hlt : i < gt.length
 ·obtain ⟨p, hp, hp', hpm⟩ := at_lt' hlt
  have hr := hat i p hp
  have hlt2 : i < g.length := by omega
  have hr' : g[i]'hlt2 = ⟨p.1, flat p.2⟩ := (List.getElem?_eq_some_iff.1 hr).2
  have e1 := print257_pure p.2 (hk p hpm).2
  have w2 : IntKind.i64.wrap ((i : Int) + 1) = (i : Int) + 1 := wrap64_in (by omega) (by omega)
  unfold printD at e1
  obtain ⟨b, hb⟩ : ∃ b, b = flat p.2 := ⟨_, rfl⟩
  have hall1 : (gt.take (i + 1)).all (fun p => printOK p.2) = printOK p.2 := by rw [List.take_add_one, hp, List.all_append, hall]; simp
  by_cases hpr : printOK p.2 = true
  ·have hpr2 := hpr
   unfold printOK at hpr2
   rw [Bool.and_eq_true, decide_eq_true_eq, decide_eq_true_eq] at hpr2
   rw [if_pos hpr2.1, if_pos hpr2.2] at e1
   rw [← hb] at hr hr' e1
   rw [hpr] at hall1
   have hnx := textG_take hp
   have hrs1 := hrs p hpm
   have hts1 := hts i hi
   have hrp := ruleT_pos p
   have hrd : ruleT p = p.1 ++ ⟨#[32, 61, 32]⟩ ++ txtT p.2 ++ ⟨#[32, 59, 10]⟩ := rfl
   obtain ⟨s, hs⟩ : ∃ s, s = txtT p.2 := ⟨_, rfl⟩
   rw [← hs] at e1 hrd
   obtain ⟨T, hT⟩ : ∃ T, T = textG (gt.take i) := ⟨_, rfl⟩
   rw [← hT] at hnx hts1 ⊢
   obtain ⟨U, hU⟩ : ∃ U, U = ruleT p := ⟨_, rfl⟩
   rw [← hU] at hrs1 hrp hrd hnx
   have hUs : U.size = p.1.size + 3 + s.size + 3 := by rw [hrd]; simp only [ByteArray.size_append, z3, z4]
   have y2 : p.1.size + 3 ≤ maxLen := by omega
   have y3 : p.1.size + 3 + s.size ≤ maxLen := by omega
   have y4 : p.1.size + 3 + s.size + 3 ≤ maxLen := by omega
   have hNs : (textG (gt.take (i + 1))).size ≠ 0 := by rw [hnx, ByteArray.size_append]; omega
   have hnew := bldO_some (i := 4) (j := 50) hNs
   by_cases hT0 : T.size = 0
   ·rw [bldO_none hT0]
    have e2 := writeFirst_spec U (by omega)
    rw [size0 hT0, empty_app] at hnx
    rw [hrd] at e2
    (refine go1 (aj1 e1) (aj1 (spc [(4,0)] [(50,1)] e2)) (aj14 @dRul.eq_1 hlt hlt2 hr hr' z3 z4 m3 m1 y2 y3 y4 @ByteArray.size_append w2) ?_; intros; refine mk_i ?_)
    refine Again.mk ⟨i + 1, by omega, hall1⟩ (Sub.lit (by rw [hnew, hnx, hrd]; simp)) (by simp; omega)
    skip
   ·rw [bldO_some hT0]
    have e2 := writeUsed_spec T U (by omega)
    rw [← hnx] at e2
    rw [hrd] at e2
    (refine go1 (aj1 e1) (aj1 (spc [(4,0),(50,1)] [] e2)) (aj14 @dRul.eq_1 hlt hlt2 hr hr' z3 z4 m3 m1 y2 y3 y4 @ByteArray.size_append w2) ?_; intros; refine mk_i ?_)
    refine Again.mk ⟨i + 1, by omega, hall1⟩ (Sub.lit (by rw [hnew]; simp)) (by simp; omega)
    skip
  ·have hall2 : gt.all (fun p => printOK p.2) = false := by
    rw [Bool.eq_false_iff]
    intro hh
    rw [List.all_eq_true] at hh
    exact hpr (hh p hpm)
   have hR2 : R = ⟨#[]⟩ := by rw [hR]; unfold textR; rw [hall2]; rfl
   have hO2 : O = false := by rw [hO]; unfold okText; rw [hall2]; rfl
   subst hR2
   subst hO2
   obtain ⟨c, hc0, e2⟩ : ∃ c : Int, (c != 0) = true ∧ DPure Tryz.prog 257 [dNds (flat p.2)] (.tup [.str ⟨#[]⟩, .int .i64 c]) := by
    by_cases hl2 : (flat p.2).length ≤ 2048
    ·rw [if_pos hl2] at e1
     by_cases h0 : boundI p.2 = 0
     ·exact absurd (by unfold printOK; simp [hl2, h0]) hpr
     ·rw [if_neg h0] at e1
      exact ⟨_, by simpa using h0, e1⟩
    ·rw [if_neg hl2] at e1
     exact ⟨3, rfl, e1⟩
   have hc1 : ¬ c = 0 := by simpa using hc0
   rw [← hb] at hr hr' e2
   obtain ⟨T, hT⟩ : ∃ T, T = textG (gt.take i) := ⟨_, rfl⟩
   rw [← hT]
   clear e1
   by_cases hT0 : T.size = 0
   ·rw [bldO_none hT0]
    exact go0 (aj1 e2) aj0 (aj8 @dRul.eq_1 hlt hlt2 hr hr' hc0 hc1 z0)
   ·rw [bldO_some hT0]
    exact go0 (aj1 e2) aj0 (aj8 @dRul.eq_1 hlt hlt2 hr hr' hc0 hc1 z0)
 ·have hkk : i = gt.length := by omega
  subst hkk
  rw [List.take_length] at hall ⊢
  have hne := textG_pos h1
  have hts1 := hts gt.length (Nat.le_refl _)
  rw [List.take_length] at hts1
  have hR2 : R = textG gt := by rw [hR]; unfold textR; rw [hall]; rfl
  have hO2 : O = decide ((textG gt).size ≤ 2048) := by rw [hO]; unfold okText; rw [hall]; rfl
  obtain ⟨T, hT⟩ : ∃ T, T = textG gt := ⟨_, rfl⟩
  rw [← hT] at hne hR2 hO2 hts1 ⊢
  have hO3 : decide (T.size ≤ 2048) = decide ((T.size : Int) ≤ 2048) := decide_eq_decide.2 (by omega)
  rw [hO3] at hO2
  clear hR hO hO3
  subst hR2
  subst hO2
  rw [bldO_some hne]
  have e1 := stringKeep_spec R hne
  have e2 := len260_spec R
  have h2 := mx_bytesD R
  exact go0 aj0 (aj2 (spc [(4,0),(50,1)] [] e1) (spc [(4,0)] [] e2)) (aj1 hml)
end Go.Proofs.YtdgocjbakjamaaaGreat
end

section
/- grammars: the program's labels, by the library's own contracts -/






set_option linter.unusedSimpArgs false
set_option linter.unusedVariables false
namespace Go.Proofs.YtdgocjbakjamaaaGreat
open Go Go.Dm Go.RowKit Go.Maps Go.Sort Go.Shelf Go.Proofs
set_option maxRecDepth 100000

theorem sortsS (m : Nat) : AnyZ.SortsIn Tryz.prog Tryz.sortedM_ren Fence.wide m :=
 ⟨fun blk off cap ss W hH hblk hsz => callsIn_wide.2 (AnyM.slices_Sort_string Tryz.sortStr blk off cap ss W hH hblk hsz),
  fun p cap W => callsIn_wide.2 (AnyM.slices_Sort_string_none Tryz.sortStr p cap W)⟩

theorem strs_vals {cur : Cur} {M : List Nat} {h : Array Obj} : ∀ {K : List ByteArray} {vs : List Value}, rdV cur M h (strsD K) vs → vs = K.map Value.string ∧ ∀ s ∈ K, s.size ≤ maxLen
 | [], vs, hr => by
  simp only [strsD, List.map_nil, rdV] at hr
  subst hr
  simp
 | s :: K, vs, hr => by
  rw [strsD_cons] at hr
  simp only [rdV, Dm.rd] at hr
  obtain ⟨v, r, rfl, ⟨rfl, hs⟩, h2⟩ := hr
  obtain ⟨h3, h4⟩ := strs_vals h2
  subst h3
  refine ⟨rfl, fun x hx => ?_⟩
  rcases List.mem_cons.1 hx with rfl | hx
  ·exact hs
  ·exact h4 x hx
def anyR : Value → Option (DataW Unit × List MemPlace) := fun _ => some (.nil, [])
theorem owns_of {w : World} {b : Nat} {es : Array MapEntry} {clk : Nat} {K : List ByteArray} (hb : w.heap[b]? = some (.map es clk)) (hB : bornOK es clk) (hk : es.toList.map (·.key) = K.map Value.string) (hsz : ∀ s ∈ K, s.size ≤ maxLen) (hn : K.Nodup) (hl : K.length ≤ maxLen) :
  ∃ D0 : DataW Unit, w.ownsMap Tryz.prog 9 anyR b K.length D0 ∧ (strKeys D0).Perm (K.map fun s => s.data.toList) ∧ Maps.size D0 = K.length := by
 have hes : es.size = K.length := by
  have := congrArg List.length hk
  simpa using this
 have hread : ∀ x ∈ es.toList, ∃ s ∈ K, x.key = .string s ∧ WideElems.rd Tryz.prog 9 anyR x = some (.string s.data.toList, .nil) := by
  intro x hx
  have : x.key ∈ K.map Value.string := by rw [← hk]; exact List.mem_map_of_mem hx
  obtain ⟨s, hs, he⟩ := List.mem_map.1 this
  refine ⟨s, hs, he.symm, ?_⟩
  obtain ⟨k, v, bn⟩ := x
  simp only at he
  subst he
  exact WideElems.rd_mk (WideMaps.keyOf_string_mk Tryz.underlying9 (hsz s hs)) (show anyR v = some (.nil, []) from rfl)
 have hE : es.toList.map (WideElems.rg Tryz.prog 9 anyR) = K.map fun s => (Lit.string s.data.toList, DataW.nil) := by
  have h1 : es.toList.map (WideElems.rg Tryz.prog 9 anyR) = (es.toList.map (·.key)).map fun v => match v with | .string s => (Lit.string s.data.toList, DataW.nil) | _ => (.bool false, .nil) := by
   rw [List.map_map]
   refine List.map_congr_left fun x hx => ?_
   obtain ⟨s, _, he, hr⟩ := hread x hx
   rw [WideElems.rg_of hr]
   simp [he]
  rw [h1, hk, List.map_map]
  rfl
 refine ⟨_, ⟨es, clk, hb, ⟨by omega, ⟨hB.2, hB.1, ?_⟩, fun x hx => ?_⟩, by omega, rfl⟩, ?_, ?_⟩
 ·rw [hk]
  exact List.pairwise_map.2 (hn.imp fun h e => h (by cases e; rfl))
 ·obtain ⟨s, _, _, hr⟩ := hread x hx
  exact ⟨_, hr⟩
 ·show ((_ : List (Lit × DataW Unit)).map fun p => strOf p.1).Perm _
  refine ((WideShapes.sorted_perm _).map _).trans ?_
  rw [hE, List.map_map]
  exact List.Perm.refl _
 ·show (_ : List (Lit × DataW Unit)).length = _
  rw [(WideShapes.sorted_perm _).length_eq, hE, List.length_map]
theorem upd_below {w w' : World} (h : Below w.heap.size w w') : Upd [] w w' := ⟨h.os, h.tape, h.output, fun hd => Bool.noConfusion hd, h.size, fun b hb _ => h.block b hb⟩
theorem ssort_strict {K : List ByteArray} (hn : K.Nodup) : Str (ssort K) := by
 have h1 := ssort_sorted K
 have h2 : (ssort K).Nodup := by
  unfold ssort
  refine List.pairwise_map.2 (List.Pairwise.imp (R := (· ≠ ·)) (fun {a b : List UInt8} h (e : (⟨a.toArray⟩ : ByteArray) = ⟨b.toArray⟩) => h (by have := congrArg (fun x : ByteArray => x.data.toList) e; simpa using this)) ?_)
  exact (List.mergeSort_perm _ _).nodup_iff.2 (List.pairwise_map.2 (hn.imp fun h e => h (bytes_ext e)))
 refine (h1.and h2).imp ?_
 rintro a b ⟨h3, h4⟩
 cases h5 : sLess a b
 ·exact absurd (sLess_tri h5 h3) h4
 ·rfl
theorem ssort_uniq {K es : List ByteArray} (hn : K.Nodup) (hm : ∀ s, s ∈ K ↔ s ∈ es) : ssort K = uniqS es := uniq_of (ssort_strict hn) fun x => by rw [ssort_mem, hm x]

set_option maxHeartbeats 2000000 in
theorem labels65_pure (g : List Rul) (hsm : (namesK 3 g).length * 16 ≤ 140737488355328) : DPure Tryz.prog 65 [dRuls g] (dStrs (labelsL' g)) := by
 refine ⟨Tryz.call65, by simp [mx], fun cur M w vs hM hr => ?_⟩
 simp only [rdV] at hr
 obtain ⟨v0, r0, hvs, h0, rfl⟩ := hr
 have hvs' : vs = #[v0] := by cases vs; simpa using hvs
 subst hvs'
 have hok := cnt_ok (namesK 3 g)
 have hN := names131_spec g 3
 obtain ⟨m, hm⟩ : ∃ m, m = cntL (namesK 3 g) := ⟨_, rfl⟩
 rw [← hm] at hN hok
 obtain ⟨_, _, hN⟩ := hN
 have hN := (hN M w (fun _ => ⟨[], Go.undef⟩) #[v0, .int .i64 3] ⟨by simp, by simp [hotOf], by simp [hotOf], fun b hb => hM b (by simpa [hotOf] using hb), by simp⟩ (by
  simp only [rdV]
  refine ⟨v0, _, rfl, ?_, _, _, rfl, by simp [Dm.rd], rfl⟩
  exact rd_weak (n := 0) ⟨fun _ _ _ h _ => absurd h (Nat.not_lt_zero _), fun _ _ _ _ h => h, fun b _ hb _ _ hm => hb (by simpa [hotOf] using hm)⟩ _ _ (by simp [mx]) h0)).2
 have cK : ∀ mb W, CallsIn Fence.wide 5 Tryz.prog 130 #[.map mb] W fun e w' => e = .returned (.func (.func 204) #[] #[.pointer (some ⟨W.heap.size, 0, none⟩)]) ∧ w' = W.alloc (.cells #[.map mb] 190) := fun mb W => AnyZ.keys_in Tryz.keysM Fence.wide 5 trivial rfl mb W
 have hf1 : Fence.wide.fn 131 := trivial
 have hf2 : Fence.wide.fn 130 := trivial
 have hf3 : Fence.wide.fn 129 := trivial
 refine (callsIn_wide (n := 6)).1 ?_
 refine callsIn_of_wp Tryz.func65 rfl trivial ?_ rfl
 simp only [Tryz.ntmps65, List.size_toArray, List.length_cons, List.length_nil, Nat.reduceAdd, Nat.reduceSub, Array.replicate_succ, Array.replicate_zero, List.push_toArray, List.append_toArray, List.nil_append, List.cons_append]
 gi_wp2_with (gi_at_call 131; refine (callsIn_wide.2 hN).mono ?_; rintro e w1 ⟨v1, rfl, loc1, S1, U1, hnew1, hver1, hrd1⟩)
 simp only [Dm.rd] at hrd1
 obtain ⟨b, hb1, rfl⟩ := hrd1 (loc1 0) rfl
 have hO := S1.ok _ (List.mem_singleton.2 rfl)
 obtain ⟨b', es, clk, hb2, hheap, hborn, hkeys, _⟩ := hO
 simp only at hb2
 rw [hb1] at hb2
 simp only [List.cons.injEq, and_true] at hb2
 subst hb2
 obtain ⟨hke, hks⟩ := strs_vals hkeys
 have hlen : m.K.length ≤ (namesK 3 g).length := hok.le
 have hmax : m.K.length ≤ maxLen := by unfold maxLen; omega
 have hblt : b < w1.heap.size := (Array.getElem?_eq_some_iff.1 hheap).1
 obtain ⟨D0, hown, hperm, hsize⟩ := owns_of (w := w1.alloc (.cells #[.map (some b)] 190)) (b := b) (by rw [← hheap]; simp only [World.alloc, Array.getElem?_push]; rw [if_neg (by omega)]) hborn hke hks hok.nd hmax
 gi_wp2_with (gi_at_call 130; refine (cK _ _).mono ?_; rintro e w2 ⟨rfl, rfl⟩)
 have hseq : SeqGives Fence.wide 2 Tryz.prog 204 #[.pointer (some ⟨w1.heap.size, 0, none⟩)] encStr (fun ss => ss.Perm (strKeys D0)) (Maps.size D0) (w1.alloc (.cells #[.map (some b)] 190)) :=
  AnyZ.keys_gives (ρ := Tryz.keysM_ren) { Tryz.keysM with } Fence.wide _ trivial rfl (by omega) w1.heap.size b m.K.length D0 _ (by simp) (by simp) hown
 have cS := AnyZ.sorted_in Tryz.sortedM Fence.wide 5 trivial trivial trivial trivial rfl (by omega) (sortsS _) (enters_of Tryz.func203 (by kernel_rfl) rfl) 204 #[.pointer (some ⟨w1.heap.size, 0, none⟩)] trivial (enters_of Tryz.func204 (by kernel_rfl) rfl) _ _ (by omega) (by omega) _ hseq
 change CallsIn _ _ Tryz.prog 129 _ _ _ at cS
 gi_wp2_with (gi_at_call 129; refine cS.mono ?_; rintro e w3 ⟨v, ss, rfl, hS, hrow, hnil, hb3⟩)
 go_ret
 have hU : Upd [] w w3 := (show Upd [] w w1 from U1).trans ((Upd.alloc [] w1 _).trans (upd_below hb3) (by simp)) (by simp)
 have hss : (ss.mergeSort fun x y => decide (x ≤ y)).map (fun x => (⟨x.toArray⟩ : ByteArray)) = labelsL' g := by
  have h1 : ss.mergeSort leB = (m.K.map fun s => s.data.toList).mergeSort leB := mergeSort_of_perm (hS.trans hperm)
  have h2 := ssort_uniq hok.nd hok.mem
  unfold ssort at h2
  unfold labelsL'
  rw [← h2, ← h1]
 have hssl : ss.length = m.K.length := by rw [hS.length_eq, hperm.length_eq, List.length_map]
 refine ⟨v, rfl, hU, ?_⟩
 simp only [Dm.rd]
 rw [← hss]
 obtain ⟨_, hrow⟩ := hrow
 rcases hrow with ⟨rfl, hz⟩ | ⟨gb, cap, cur2, rfl, hbase, hgb, r1, r2, r3, r4⟩
 ·have h0 : ss = [] := List.eq_nil_of_length_eq_zero hz
  subst h0
  exact ⟨none, 0, by simp, by simp, by simp, by simp, .inl ⟨by simp, fun _ => rfl⟩⟩
 ·have hml : (ss.mergeSort fun x y => decide (x ≤ y)).length = ss.length := List.length_mergeSort _
  refine ⟨some ⟨gb, 0, none⟩, cap, by simp, by simpa using r1, r2, ?_, .inr ⟨gb, 0, cur2, _, (0, 0), rfl, fun hm => ?_, hgb, ?_⟩⟩
  ·simp only [List.length_map, hml]; omega
  ·have h1 := hM gb hm
   have h2 := U1.size
   simp at hbase
   omega
  ·refine rdR_mk _ _ _ _ fun i cs hi => ?_
   rw [List.getElem?_map, List.getElem?_map, Option.map_map, Option.map_eq_some_iff] at hi
   obtain ⟨x, hx, rfl⟩ := hi
   refine ⟨rfl, ?_⟩
   have hil : i < ss.length := by have := (List.getElem?_eq_some_iff.1 hx).1; omega
   have hcell : cur2[i]? = some (encStr x) := by
    have h1 : (cur2.toList.take (ss.length * 1))[i]? = some (encStr x) := by rw [r4, List.getElem?_map, hx]; rfl
    rw [List.getElem?_take_of_lt (by omega)] at h1
    simpa using h1
   have hxs : x.length ≤ maxLen := by
    have h1 : x ∈ m.K.map fun s => s.data.toList := (hS.trans hperm).mem_iff.1 ((List.mergeSort_perm ss _).mem_iff.1 (List.mem_of_getElem? hx))
    obtain ⟨s, hs, rfl⟩ := List.mem_map.1 h1
    exact hks s hs
   simp only [Function.comp_apply, dStr, rdC, and_true]
   exact ⟨encStr x, by simpa using hcell, rfl, by simp only [Dm.rd]; exact ⟨trivial, hxs⟩⟩
end Go.Proofs.YtdgocjbakjamaaaGreat
end

section
/- grammars: the program's Check -/


set_option linter.unusedSimpArgs false
set_option linter.unusedVariables false
namespace Go.Proofs.YtdgocjbakjamaaaGreat
open Go Go.Dm
attribute [local irreducible] DW callP callS
set_option maxRecDepth 100000

def anBN7195 : Ann := ⟨[], []⟩
theorem ord5_pure (g : List Rul) (hl : g.length ≤ 64) (hs : SmlG g) : DPure Tryz.prog 195 [dRuls g] (.bool (decide (16 < (labelsL' g).length))) := by
 refine DPure_introF [] (fn := Tryz.f195) Tryz.func195 rfl Tryz.call195 (by simp [Tryz.ntmps195]) (by simp [mx]) ?_
 intro hwf B hnt
 simp only [Tryz.ntmps195] at hnt
 have hA := an_is anBN7195 Tryz.mixed (aj2 @anBN7195.eq_1 Tryz.results195)
 clear hwf
 simp only [argS]
 have n3 := names_le (k := 3) hs
 have e1 := labels65_pure g (by omega)
 obtain ⟨H, hH⟩ : ∃ H, H = labelsL' g := ⟨_, rfl⟩
 rw [← hH] at e1
 rw [← hH]
 have h2 : decide (16 < H.length) = decide ((16 : Int) < (H.length : Int)) := decide_eq_decide.2 (by omega)
 rw [h2]
 exact go0 (aj1 e1) aj0 aj0
def anBN7199 : Ann := ⟨[], []⟩
theorem ord9_pure (gt : GT) (hk : OkG gt) (hs : SmlG (mkG gt)) (h1 : 1 ≤ gt.length) (hl : gt.length ≤ 64) : DPure Tryz.prog 199 [dRuls (mkG gt)] (.bool (!okText gt)) := by
 refine DPure_introF [] (fn := Tryz.f199) Tryz.func199 rfl Tryz.call199 (by simp [Tryz.ntmps199]) (by simp [mx]) ?_
 intro hwf B hnt
 simp only [Tryz.ntmps199] at hnt
 have hA := an_is anBN7199 Tryz.mixed (aj2 @anBN7199.eq_1 Tryz.results199)
 clear hwf
 simp only [argS]
 have e1 := text200_pure gt hk hs h1 hl
 obtain ⟨g, hg⟩ : ∃ g, g = mkG gt := ⟨_, rfl⟩
 rw [← hg] at e1 ⊢
 exact go0 (aj1 e1) aj0 aj0
def anBN7186 : Ann := ⟨[], []⟩
theorem ordF_pure (f : FuncId) : DPure Tryz.prog 186 [.fn (.func f) [] []] (.fn (.func 187) [] [.ref [.fn (.func f) [] []]]) := by
 refine DPure_introF [] (fn := Tryz.f186) Tryz.func186 rfl Tryz.call186 (by simp [Tryz.ntmps186]) (by simp [mx, mxL]) ?_
 intro hwf B hnt
 simp only [Tryz.ntmps186] at hnt
 have hA := an_is anBN7186 Tryz.mixed (aj2 @anBN7186.eq_1 Tryz.results186)
 clear hwf
 simp only [argS]
 exact go0 aj0 aj0 aj0
structure Ask where
 f : FuncId
 cs : List DVal
 b : Bool
 e : Int
def dAsk (x : Ask) : List DVal := [.fn (.func x.f) [] x.cs, .int .i64 x.e]
def asks (b1 b2 b3 b4 b5 b6 b7 b8 : Bool) : List Ask :=
 [⟨189, [], b1, 180⟩, ⟨187, [.ref [.fn (.func 190) [] []]], b2, 170⟩, ⟨193, [], b3, 181⟩, ⟨195, [], b4, 182⟩, ⟨196, [], b5, 183⟩, ⟨187, [.ref [.fn (.func 197) [] []]], b6, 171⟩, ⟨198, [], b7, 184⟩, ⟨199, [], b8, 174⟩]
def anBN7127 : Ann := ⟨[], []⟩
theorem order127_pure (b1 b2 b3 b4 b5 b6 b7 b8 : Bool) : DPure Tryz.prog 127 [] (.sl 2 16 ((asks b1 b2 b3 b4 b5 b6 b7 b8).map dAsk)) := by
 refine DPure_introF [] (fn := Tryz.f127) Tryz.func127 rfl Tryz.call127 (by simp [Tryz.ntmps127]) (by simp [mx, mxR, mxL, asks, dAsk]) ?_
 intro hwf B hnt
 simp only [Tryz.ntmps127] at hnt
 have hA := an_is anBN7127 Tryz.mixed (aj2 @anBN7127.eq_1 Tryz.results127)
 clear hwf
 simp only [argS, asks, dAsk, List.map_cons, List.map_nil]
 have e1 := ordF_pure 190
 have e2 := ordF_pure 197
 have r8 : List.range 8 = [0, 1, 2, 3, 4, 5, 6, 7] := rfl
 exact go0 (aj2 e1 e2) aj0 (aj1 r8)
def firstA : List Ask → Int
 | [] => 0
 | x :: l => if x.b then x.e else firstA l
def anBN763 : Ann := ⟨[], [⟨3, [4], [], []⟩]⟩
set_option maxHeartbeats 1000000 in
theorem check63_gen (g : List Rul) (l : List Ask) (hl8 : l.length = 8) (hmx : mxR (l.map dAsk) = 0) (ho : DPure Tryz.prog 127 [] (.sl 2 16 (l.map dAsk)))
  (hq : ∀ (k : Nat) (x : Ask), l[k]? = some x → (∀ (j : Nat) (y : Ask), j < k → l[j]? = some y → y.b = false) → DPure Tryz.prog x.f (dRuls g :: x.cs) (.bool x.b)) : DPure Tryz.prog 63 [dRuls g] (.int .i64 (firstA l)) := by
 refine DPure_introF [] (fn := Tryz.f63) Tryz.func63 rfl Tryz.call63 (by simp [Tryz.ntmps63]) (by simp [mx]) ?_
 intro hwf B hnt
 simp only [Tryz.ntmps63] at hnt
 have hA := an_is anBN763 Tryz.mixed (aj2 @anBN763.eq_1 Tryz.results63)
 clear hwf
 simp only [argS]
 obtain ⟨R, hR⟩ : ∃ R, R = firstA l := ⟨_, rfl⟩
 rw [← hR]
 (refine go1 (aj1 ho) aj0 aj0 ?_; intros; refine mk_i ?_)
 refine DW_loop (X := {k : Nat // k ≤ l.length ∧ R = firstA (l.drop k) ∧ ∀ (j : Nat) (y : Ask), j < k → l[j]? = some y → y.b = false}) (fun x => ⟨[(0, dRuls g), (5, .sl 2 16 (l.map dAsk)), (6, .int .i64 l.length), (7, .int .i64 x.1)], []⟩) (fun x => l.length - x.1) ⟨0, by simp [hR]⟩ (Sub.lit (by simp [hmx])) ?_
 clear hR
 rintro ⟨k, hk, hR, hno⟩
 by_cases hlt : k < l.length
 ·obtain ⟨x, hx, hx', hxm⟩ := at_lt' hlt
  rw [List.drop_eq_getElem_cons hlt, hx', firstA] at hR
  have e1 := hq k x hx hno
  cases hb : x.b
  ·rw [hb] at e1 hR
   simp only [Bool.false_eq_true, if_false] at hR
   have hno' : ∀ (j : Nat) (y : Ask), j < k + 1 → l[j]? = some y → y.b = false := by
    intro i y hi hy
    by_cases hik : i = k
    ·subst hik; rw [hx] at hy; simp only [Option.some.injEq] at hy; subst hy; exact hb
    ·exact hno i y (by omega) hy
   (refine go1 (aj1 e1) aj0 (aj4 @dAsk.eq_1 hlt hx hx') ?_; intros; refine mk_i ?_)
   exact Again.mk ⟨k + 1, by omega, hR, hno'⟩ (Sub.lit (by simp [hmx])) (by simp; omega)
   skip
  ·rw [hb] at e1 hR
   simp only [if_true] at hR
   subst hR
   exact go0 (aj1 e1) aj0 (aj4 @dAsk.eq_1 hlt hx hx')
 ·have hkk : k = l.length := by omega
  subst hkk
  rw [List.drop_length] at hR
  have hR2 : R = 0 := hR
  subst hR2
  exact go0 aj0 aj0 aj0

theorem check63_count (g : List Rul) (h : g.length < 1 ∨ 64 < g.length) : DPure Tryz.prog 63 [dRuls g] (.int .i64 180) := by
 have hq := ord2_pure g
 have hb : (decide (g.length < 1) || decide (64 < g.length)) = true := by simpa using h
 rw [hb] at hq
 refine check63_gen g (asks true true true true true true true true) rfl (by simp [asks, dAsk, mxR, mxL, mx]) (order127_pure _ _ _ _ _ _ _ _) fun k x hx hno => ?_
 cases k with
 | zero =>
  simp only [asks, List.getElem?_cons_zero, Option.some.injEq] at hx
  subst hx
  exact hq
 | succ k => have := hno 0 _ (by omega) rfl; simp at this
theorem check63_bad (g : List Rul) (h1 : 1 ≤ g.length) (h2 : g.length ≤ 64) (hs : SmlG g) (ht : treesB g = false) : DPure Tryz.prog 63 [dRuls g] (.int .i64 170) := by
 have q1 := ord2_pure g
 have hb : (decide (g.length < 1) || decide (64 < g.length)) = false := by rw [decide_eq_false (by omega), decide_eq_false (by omega)]; rfl
 rw [hb] at q1
 have q2 := ord1_pure 190 g badR fun x hx => ord3_pure x (hs x hx)
 have hb2 : g.any badR = true := by
  unfold treesB at ht
  rw [List.all_eq_false] at ht
  obtain ⟨r, hr, hn⟩ := ht
  refine List.any_eq_true.2 ⟨r, hr, ?_⟩
  unfold badR
  rw [Bool.not_eq_true] at hn
  rw [hn]
  rfl
 rw [hb2] at q2
 refine check63_gen g (asks false true true true true true true true) rfl (by simp [asks, dAsk, mxR, mxL, mx]) (order127_pure _ _ _ _ _ _ _ _) fun k x hx hno => ?_
 match k, hx, hno with
 | 0, hx, _ =>
  simp only [asks, List.getElem?_cons_zero, Option.some.injEq] at hx
  subst hx
  exact q1
 | 1, hx, _ =>
  simp only [asks, List.getElem?_cons_zero, List.getElem?_cons_succ, Option.some.injEq] at hx
  subst hx
  exact q2
 | k + 2, _, hno => have := hno 1 _ (by omega) rfl; simp at this
theorem okText_iff {gt : GT} (hk : OkG gt) (hd : deepG gt = false) : okText gt = decide ((textG gt).size ≤ 2048) := by
 unfold okText
 by_cases h : (textG gt).size ≤ 2048
 ·rw [decide_eq_true h, Bool.and_true, List.all_eq_true]
  intro p hp
  have h1 := ruleT_le hp
  have h2 := txt_geT p.2 (hk p hp).2
  unfold deepG at hd
  rw [List.any_eq_false] at hd
  have h3 := hd p hp
  simp only [decide_eq_true_eq] at h3
  unfold printOK boundI
  rw [if_neg h3, if_neg (by omega)]
  simp
  omega
 ·rw [decide_eq_false h, Bool.and_false]
set_option maxHeartbeats 1000000 in
theorem check63_gt (gt : GT) (h1 : 1 ≤ gt.length) (h2 : gt.length ≤ 64) (hk : OkG gt) (hs : SmlG (mkG gt)) : DPure Tryz.prog 63 [dRuls (mkG gt)] (.int .i64 (codeT gt)) := by
 have hml := mkG_len gt
 have q1 := ord2_pure (mkG gt)
 have hb : (decide ((mkG gt).length < 1) || decide (64 < (mkG gt).length)) = false := by rw [decide_eq_false (by omega), decide_eq_false (by omega)]; rfl
 rw [hb] at q1
 have q2 := ord1_pure 190 (mkG gt) badR fun x hx => ord3_pure x (hs x hx)
 have hb2 : (mkG gt).any badR = false := by
  have ht := gt_trees hk
  unfold treesB at ht
  rw [List.all_eq_true] at ht
  rw [List.any_eq_false]
  intro r hr
  unfold badR
  rw [ht r hr]
  simp
 rw [hb2] at q2
 have n2 := names_le (k := 2) hs
 have q3 := ord4_pure (mkG gt) (by omega) hs
 have q4 := ord5_pure (mkG gt) (by omega) hs
 have q5 := ord6_pure (mkG gt) hs (by omega)
 have q6 : DPure Tryz.prog 187 [dRuls (mkG gt), .ref [.fn (.func 197) [] []]] (.bool (deepG gt)) := by
  have hq : ∃ q : Rul → Bool, (∀ p ∈ gt, q ⟨p.1, flat p.2⟩ = decide (16 < htT p.2)) ∧ ∀ x ∈ mkG gt, DPure Tryz.prog 197 [.agg (dRul x)] (.bool (q x)) := by
   refine ⟨fun r => decide (16 < (r.b.foldl hstep ([], 0)).2), fun p hp => ?_, fun x hx => ?_⟩
   ·simp only [height_flat (hk p hp).2]
   ·obtain ⟨p, hp, rfl⟩ := List.mem_map.1 hx
    simp only [height_flat (hk p hp).2]
    exact ord7_pure p.1 p.2 (hk p hp).2 (small_gt hs hp)
  obtain ⟨q, hq1, hq2⟩ := hq
  have e1 := ord1_pure 197 (mkG gt) q hq2
  have : (mkG gt).any q = deepG gt := by
   unfold mkG deepG
   rw [List.any_map]
   rw [Bool.eq_iff_iff, List.any_eq_true, List.any_eq_true]
   constructor
   ·rintro ⟨p, hp, h⟩; exact ⟨p, hp, by rw [← hq1 p hp]; exact h⟩
   ·rintro ⟨p, hp, h⟩; exact ⟨p, hp, by rw [← hq1 p hp] at h; exact h⟩
  rw [this] at e1
  exact e1
 have q7 := ord8_pure (mkG gt) (by omega)
 have q8 := ord9_pure gt hk hs h1 h2
 have hf : codeT gt = firstA (asks false false (decide (16 < (headsL (mkG gt)).length + (missL (mkG gt)).length)) (decide (16 < (labelsL' (mkG gt)).length)) (decide (64 < occG (mkG gt))) (deepG gt) (decide (0 < (missL (mkG gt)).length)) (!okText gt)) := by
  unfold codeT
  simp only [asks, firstA, Bool.false_eq_true, if_false, decide_eq_true_eq]
  cases hd : deepG gt
  ·rw [okText_iff hk hd]
   by_cases h8 : 2048 < (textG gt).size
   ·have h8' : ¬ (textG gt).size ≤ 2048 := by omega
    simp [h8, h8']
   ·have h8' : (textG gt).size ≤ 2048 := by omega
    simp [h8, h8']
  ·simp
 rw [hf]
 refine check63_gen (mkG gt) _ rfl (by simp [asks, dAsk, mxR, mxL, mx]) (order127_pure _ _ _ _ _ _ _ _) fun k x hx hno => ?_
 match k, hx with
 | 0, hx => simp only [asks, List.getElem?_cons_zero, List.getElem?_cons_succ, Option.some.injEq] at hx; subst hx; exact q1
 | 1, hx => simp only [asks, List.getElem?_cons_zero, List.getElem?_cons_succ, Option.some.injEq] at hx; subst hx; exact q2
 | 2, hx => simp only [asks, List.getElem?_cons_zero, List.getElem?_cons_succ, Option.some.injEq] at hx; subst hx; exact q3
 | 3, hx => simp only [asks, List.getElem?_cons_zero, List.getElem?_cons_succ, Option.some.injEq] at hx; subst hx; exact q4
 | 4, hx => simp only [asks, List.getElem?_cons_zero, List.getElem?_cons_succ, Option.some.injEq] at hx; subst hx; exact q5
 | 5, hx => simp only [asks, List.getElem?_cons_zero, List.getElem?_cons_succ, Option.some.injEq] at hx; subst hx; exact q6
 | 6, hx => simp only [asks, List.getElem?_cons_zero, List.getElem?_cons_succ, Option.some.injEq] at hx; subst hx; exact q7
 | 7, hx => simp only [asks, List.getElem?_cons_zero, List.getElem?_cons_succ, Option.some.injEq] at hx; subst hx; exact q8
 | k + 8, hx => simp [asks] at hx
end Go.Proofs.YtdgocjbakjamaaaGreat
end

section
/- the table of symbols of a grammar -/



set_option linter.unusedSimpArgs false
set_option linter.unusedVariables false
namespace Go.Proofs.YtdgocjbakjamaaaGreat
open Go Go.Dm
attribute [local irreducible] DW callP callS
set_option maxRecDepth 100000

theorem str_nodup {l : List ByteArray} (h : Str l) : l.Nodup := h.imp fun h1 => sLess_ne h1
theorem not_take {l : List ByteArray} (hn : l.Nodup) {i : Nat} {x : ByteArray} (h : l[i]? = some x) : ¬ x ∈ l.take i := by
 intro hm
 obtain ⟨j, hj, e⟩ := List.getElem_of_mem hm
 rw [List.length_take] at hj
 rw [List.getElem_take] at e
 obtain ⟨hi, e2⟩ := List.getElem?_eq_some_iff.1 h
 have := (List.getElem_inj (h₀ := by omega) (h₁ := hi) hn).1 (e.trans e2.symm)
 omega
theorem take_snoc {α : Type} {l : List α} {i : Nat} {x : α} (h : l[i]? = some x) : l.take (i + 1) = l.take i ++ [x] := by rw [List.take_add_one, h]; rfl
def anSY114 : Ann := ⟨[], []⟩
set_option maxHeartbeats 1000000 in
theorem of14_err (g : List Rul) (c : Int) (hc : c ≠ 0) (h : DPure Tryz.prog 63 [dRuls g] (.int .i64 c)) : DPure Tryz.prog 14 [dRuls g] (.tup [.nilp, .int .i64 c]) := by
 refine DPure_introF [] (fn := Tryz.f14) Tryz.func14 rfl Tryz.call14 (by simp [Tryz.ntmps14]) (by simp [mx]) ?_
 intro hwf B hnt
 simp only [Tryz.ntmps14] at hnt
 have hA := an_is anSY114 Tryz.mixed (aj2 @anSY114.eq_1 Tryz.results14)
 clear hwf
 simp only [argS]
 exact go0 (aj1 h) aj0 (aj1 hc)
def anSY114b2 : Ann := ⟨[19, 21], []⟩
set_option maxHeartbeats 2000000 in
theorem of14_ok (g : List Rul) (hn : (namesK 3 g).length * 16 ≤ 140737488355328) (hl : (headsL g).length < 9223372036854775807) (hll : (labelsL' g).length < 9223372036854775807) (h : DPure Tryz.prog 63 [dRuls g] (.int .i64 0)) : DPure Tryz.prog 14 [dRuls g] (.tup [dTab (headsL g) (labelsL' g), .int .i64 0]) := by
 refine DPure_introF [19, 21] (fn := Tryz.f14) Tryz.func14 rfl Tryz.call14 (by simp [Tryz.ntmps14]) (by simp [mx]) ?_
 intro hwf B hnt
 simp only [Tryz.ntmps14] at hnt
 have hA := an_is anSY114b2 Tryz.mixed (aj2 @anSY114b2.eq_1 Tryz.results14)
 clear hwf
 simp only [argS]
 have e1 := heads64_pure g
 have e2 := labels65_pure g hn
 have hH := headsL_nodup g
 have hL := str_nodup (uniqS_ok (namesK 3 g)).1
 rw [show uniqS (namesK 3 g) = labelsL' g from rfl] at hL
 obtain ⟨H, eH⟩ : ∃ H, H = headsL g := ⟨_, rfl⟩
 obtain ⟨L, eL⟩ : ∃ L, L = labelsL' g := ⟨_, rfl⟩
 rw [← eH] at e1 hH hl ⊢
 rw [← eL] at e2 hL hll ⊢
 clear eH eL
 (refine go1 (aj3 h e1 e2) aj0 aj0 ?_; intros; refine mk_i ?_)
 refine DW_loop (X := {k : Nat // k ≤ H.length}) (fun k => ⟨[(5, .bx 21 1 0), (25, dStrs H), (26, .int .i64 H.length), (27, .int .i64 k.1)], [⟨21, 1, .box [dStrs H, dStrs L, .omp 19 1]⟩, ⟨19, 1, .map (keyL false (H.take k.1)) (upTo k.1)⟩]⟩) (fun k => H.length - k.1) ⟨0, by omega⟩ (Sub.lit (by simp [keyL, upTo])) ?_
 rintro ⟨k, hk⟩
 simp only
 by_cases hlt : k < H.length
 ·obtain ⟨x, hx, hx', hxm⟩ := at_lt' hlt
  have h1 := lookL_none (b := false) (not_take hH hx)
  have hok := keyL_ok false (H.take k)
  have hu : upTo k ++ [.int .i64 (k : Int)] = upTo (k + 1) := (upTo_succ k).symm
  have hKs : keyL false (H.take k) ++ [.agg [.bool false, .str x]] = keyL false (H.take (k + 1)) := by rw [take_snoc hx, keyL_snoc]
  (refine go1 aj0 aj0 (aj8 hlt hx hx' @dStr.eq_1 h1 hok hu hKs) ?_; intros; refine mk_i ?_)
  refine Again.mk ⟨k + 1, by omega⟩ (Sub.lit (by simp [hKs])) (by simp; omega)
  skip
 ·have hkk : k = H.length := by omega
  subst hkk
  rw [List.take_length]
  have k0 : keyL true [] = [] := rfl
  have u0 : upTo 0 = [] := rfl
  (refine go1 aj0 aj0 aj0 ?_; intros; refine mk_i ?_)
  refine DW_loop (X := {k : Nat // k ≤ L.length}) (fun k => ⟨[(5, .bx 21 1 0), (43, dStrs L), (44, .int .i64 L.length), (45, .int .i64 k.1)], [⟨21, 1, .box [dStrs H, dStrs L, .omp 19 1]⟩, ⟨19, 1, .map (tabK H (L.take k.1)) (upTo H.length ++ upTo k.1)⟩]⟩) (fun k => L.length - k.1) ⟨0, by omega⟩ (Sub.lit (by simp [tabK, k0, u0])) ?_
  rintro ⟨k, hk⟩
  simp only
  by_cases hlt : k < L.length
  ·obtain ⟨x, hx, hx', hxm⟩ := at_lt' hlt
   have h1 := tab_none (H := H) (L := L.take k) (b := true) (not_take hL hx)
   have hok := tab_ok H (L.take k)
   have hu : upTo H.length ++ upTo k ++ [.int .i64 (k : Int)] = upTo H.length ++ upTo (k + 1) := by rw [upTo_succ, List.append_assoc]
   have hKs : tabK H (L.take k) ++ [.agg [.bool true, .str x]] = tabK H (L.take (k + 1)) := by unfold tabK; rw [take_snoc hx, keyL_snoc, List.append_assoc]
   (refine go1 aj0 aj0 (aj8 hlt hx hx' @dStr.eq_1 h1 hok hu hKs) ?_; intros; refine mk_i ?_)
   refine Again.mk ⟨k + 1, by omega⟩ (Sub.lit (by simp [hKs])) (by simp; omega)
   skip
  ·have hkk : k = L.length := by omega
   subst hkk
   rw [List.take_length]
   exact go0 aj0 aj0 aj0
end Go.Proofs.YtdgocjbakjamaaaGreat
end

