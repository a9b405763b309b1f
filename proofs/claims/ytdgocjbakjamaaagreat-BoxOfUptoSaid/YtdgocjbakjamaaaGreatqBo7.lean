/- Parts of a proof, laid together: RB4, WC1, WC2, BX0, WOg, WSg, BO0, WBp, WB3, EnSc, WB4, WB5, WB6, WB7, BN0, WB8, WB9, WB10, WB11, WB12, WB13, EnBo, BN1, RY4, WE0, WR2, WR3. -/
import Derived.Scope
import Derived.Test.YtdgocjbakjamaaaGreatqBo4
import Derived.Test.YtdgocjbakjamaaaGreatqBo5
import Derived.Test.YtdgocjbakjamaaaGreatqBo6
section
set_option linter.unusedSectionVars false
/- boxes by definition: what may stand next -/


set_option linter.unusedSimpArgs false
set_option linter.unusedVariables false
namespace Go.Proofs.YtdgocjbakjamaaaGreat
open Go Go.Dm
variable [DMode]
attribute [local irreducible] DW callP callS
set_option maxRecDepth 100000

def foG (x : Nd) (ks : List RT) (P p q : Nat) (G : Option Bool) : Bool := match G with
 | some b => b
 | none => decide (x.k = 4) && irL ks (P + 1) p q
theorem foT_go (x : Nd) (ks : List RT) (P p q : Nat) (h : ((decide (x.k = 6) || decide (x.k = 7)) && hdL ks (P + 1) p q) = false) : foT (.mk x ks) P p q = foG x ks P p q (foL ks (P + 1) p q) := by
 rw [foT_mk, h]
 rfl
def anRB4150 : Ann := ⟨[], []⟩
set_option maxHeartbeats 8000000 in
theorem follows150_pure (p q : Nat) : ∀ (n : Nat) (t : RT) (l : List Nd) (P : Nat), (flat t).length = n → At l P t → l.length ≤ 1310720 → DPure Tryz.prog 150 [dNds l, .int .i64 P, .int .i64 p, .int .i64 q] (.bool (foT t P p q)) := by
 intro n
 induction n using Nat.strongRecOn with
 | ind n ih =>
 intro t l P hn ht hs
 obtain ⟨x, ks⟩ := t
 have kk := kids81_pure l P x ks ht hs
 have hIR := inRow233_pure l P p q x ks ht hs
 obtain ⟨g0, gl, ge⟩ := ht.head
 simp only [RT.x] at g0
 have g0' : l[P]'gl = x := (List.getElem?_eq_some_iff.1 g0).2
 have hok := ht.ok
 have hfl : (flat (.mk x ks)).length = (flatL ks).length + 1 := by rw [flat_mk, List.length_cons]
 have hkl := flatL_len ks
 have hk9 : ks.length ≤ 1310720 := by omega
 have hch : ∀ i u, ks[i]? = some u → DPure Tryz.prog 150 [dNds l, .int .i64 (kidP P ks i), .int .i64 p, .int .i64 q] (.bool (foT u (kidP P ks i) p q)) := fun i u hu => by
  have hm := flatL_mem (List.mem_of_getElem? hu)
  exact ih (flat u).length (by omega) u l _ rfl (ht.kid hu).1 hs
 have hwp : ∀ i u, ks[i]? = some u → _ := fun i u hu => within152_pure l (kidP P ks i) p u (ht.kid hu).1 hs
 have hwq : ∀ i u, ks[i]? = some u → _ := fun i u hu => within152_pure l (kidP P ks i) q u (ht.kid hu).1 hs
 have hen : ∀ i u, ks[i]? = some u → _ := fun i u hu => ends81_pure p _ u l (kidP P ks i) rfl (ht.kid hu).1 hs
 have hbe : ∀ i u, ks[i]? = some u → _ := fun i u hu => begins148_pure q _ u l (kidP P ks i) rfl (ht.kid hu).1 hs
 have hrow : ∀ i, i < ks.length → _ := fun i h => kids_row (p := P) (ks := ks) (i := i) h
 unfold kidsD at kk hIR
 obtain ⟨D, hD⟩ : ∃ D, D = (List.range ks.length).map fun i => kidD (kidP P ks i) := ⟨_, rfl⟩
 have hDl : D.length = ks.length := by rw [hD]; simp
 have hDm : mxR D = 0 := by rw [hD]; exact mx_kids P ks _
 rw [← hD] at kk hrow hIR
 clear hD ih ht ge hn
 have hgo := foT_go x ks P p q
 have htr := foT_mk x ks P p q
 obtain ⟨R, hR⟩ : ∃ R, R = foT (.mk x ks) P p q := ⟨_, rfl⟩
 rw [← hR] at hgo htr ⊢
 clear hR
 refine DPure_introF [] (fn := Tryz.f150) Tryz.func150 rfl Tryz.call150 (by simp [Tryz.ntmps150]) (by simp [mx]) ?_
 intro hwf B hnt
 simp only [Tryz.ntmps150] at hnt
 have hA := an_is anRB4150 Tryz.mixed (aj2 @anRB4150.eq_1 Tryz.results150)
 clear hwf
 simp only [argS]
 by_cases k67 : x.k = 6 ∨ x.k = 7
 ·obtain ⟨u0, hu0⟩ := one_kid hok (by omega)
  have hu1 : ks[0]? = some u0 := by rw [hu0]; rfl
  have hlt0 : 0 < ks.length := by rw [hu0]; simp
  have hltD0 : 0 < D.length := by omega
  have hr0 := hrow 0 hlt0
  have hr0' : D[0]'hltD0 = [.int .i64 (kidP P ks 0 : Int)] := (List.getElem?_eq_some_iff.1 hr0).2
  have e4 := hen 0 u0 hu1
  have e5 := hbe 0 u0 hu1
  have hhd : hdL ks (P + 1) p q = (enT u0 (kidP P ks 0) p && bgT u0 (kidP P ks 0) q) := by rw [kid_zero, hu0]; rfl
  rw [hhd] at hgo htr
  clear hu0 hhd
  obtain ⟨a0, ha0⟩ : ∃ a0, a0 = kidP P ks 0 := ⟨_, rfl⟩
  rw [← ha0] at hr0 hr0' e4 e5 hgo htr
  obtain ⟨c1, hc1⟩ : ∃ c1, c1 = enT u0 a0 p := ⟨_, rfl⟩
  obtain ⟨c2, hc2⟩ : ∃ c2, c2 = bgT u0 a0 q := ⟨_, rfl⟩
  rw [← hc1] at e4 hgo htr
  rw [← hc2] at e5 hgo htr
  have hkb : (decide (x.k = 6) || decide (x.k = 7)) = true := by simpa using k67
  have hkb2 : (x.k == 6 || x.k == 7) = true := by simpa using k67
  have hk2 : (x.k == 7) = (decide (x.k = 7)) := rfl
  have hk3 : (x.k == 6) = (decide (x.k = 6)) := rfl
  rw [hkb] at hgo htr
  simp only [Bool.true_and] at hgo htr
  by_cases hcc : (c1 && c2) = true
  ·rw [hcc] at htr
   simp only [if_true] at htr
   simp only [Bool.and_eq_true] at hcc
   rw [hcc.1] at e4
   rw [hcc.2] at e5
   rcases k67 with k6 | k7
   ·exact go0 (aj3 kk e4 e5) aj0 (aj10 @dNd.eq_1 g0 g0' gl hDl hltD0 hr0 hr0' k6 htr)
   ·exact go0 (aj3 kk e4 e5) aj0 (aj10 @dNd.eq_1 g0 g0' gl hDl hltD0 hr0 hr0' k7 htr)
  ·rw [Bool.not_eq_true] at hcc
   replace hgo := hgo hcc
   cases c1
   ·rcases k67 with k6 | k7
    ·(refine go1 (aj3 kk e4 e5) aj0 (aj9 @dNd.eq_1 g0 g0' gl hDl hltD0 hr0 hr0' k6) ?_; intros; refine mk_i ?_)
     refine DW_loop (X := {i : Nat // i ≤ ks.length ∧ R = foG x ks P p q (foL (ks.drop i) (kidP P ks i) p q)}) (fun i => ⟨[(0, dNds l), (2, .int .i64 p), (3, .int .i64 q), (9, .sl 1 8 D), (10, .int .i64 x.k), (11, .int .i64 i.1)], []⟩) (fun i => ks.length - i.1) ⟨0, by omega, by rw [List.drop_zero, kid_zero]; exact hgo⟩ (Sub.lit (by simp [hDm, k6])) ?_
     clear hgo htr
     rintro ⟨i, hi, hR⟩
     simp only
     by_cases hlt : i < ks.length
     ·obtain ⟨u, hu, hu', _⟩ := at_lt' hlt
      have e1 := hwp i u hu
      have e2 := hwq i u hu
      have e3 := hch i u hu
      have hr := hrow i hlt
      have hltD : i < D.length := by omega
      have hwi : IntKind.i64.wrap ((i : Int) + 1) = (i : Int) + 1 := wrap64_in (by omega) (by omega)
      have hr' : D[i]'hltD = [.int .i64 (kidP P ks i : Int)] := (List.getElem?_eq_some_iff.1 hr).2
      rw [kid_drop hu, foL_cons, ← kid_next hu] at hR
      obtain ⟨a, ha⟩ : ∃ a, a = kidP P ks i := ⟨_, rfl⟩
      rw [← ha] at e1 e2 e3 hr hr' hR
      obtain ⟨b1, hb1⟩ : ∃ b1, b1 = inB u a p := ⟨_, rfl⟩
      obtain ⟨b2, hb2⟩ : ∃ b2, b2 = inB u a q := ⟨_, rfl⟩
      rw [← hb1] at e1 hR
      rw [← hb2] at e2 hR
      clear hb1 hb2
      cases b1
      ·simp only [Bool.false_and, Bool.false_eq_true, if_false] at hR
       (refine go1 (aj3 e1 e2 e3) aj0 (aj6 hDl hltD hwi hr hr' hlt) ?_; intros; refine mk_i ?_)
       refine Again.mk ⟨i + 1, by omega, hR⟩ (Sub.lit (by simp [hDm])) (by simp; omega)
       skip
      ·cases b2
       ·simp only [Bool.and_false, Bool.false_eq_true, if_false] at hR
        (refine go1 (aj3 e1 e2 e3) aj0 (aj6 hDl hltD hwi hr hr' hlt) ?_; intros; refine mk_i ?_)
        refine Again.mk ⟨i + 1, by omega, hR⟩ (Sub.lit (by simp [hDm])) (by simp; omega)
        skip
       ·simp only [Bool.and_self, if_true] at hR
        have hR2 : R = foT u a p q := hR
        exact go0 (aj3 e1 e2 e3) aj0 (aj7 hDl hltD hwi hr hr' hlt hR2)
     ·have hkk : i = ks.length := by omega
      subst hkk
      rw [List.drop_length, foL_nil] at hR
      have hR2 : R = (decide (x.k = 4) && irL ks (P + 1) p q) := hR
      by_cases k4 : x.k = 4
      ·rw [decide_eq_true k4, Bool.true_and] at hR2
       rw [← hR2] at hIR
       exact go0 (aj1 hIR) aj0 (aj2 hDl k4)
      ·rw [decide_eq_false k4, Bool.false_and] at hR2
       have b4 : (x.k == 4) = false := by simpa using k4
       exact go0 aj0 aj0 (aj4 hDl k4 b4 hR2)
    ·skip
     (refine go1 (aj3 kk e4 e5) aj0 (aj9 @dNd.eq_1 g0 g0' gl hDl hltD0 hr0 hr0' k7) ?_; intros; refine mk_i ?_)
     refine DW_loop (X := {i : Nat // i ≤ ks.length ∧ R = foG x ks P p q (foL (ks.drop i) (kidP P ks i) p q)}) (fun i => ⟨[(0, dNds l), (2, .int .i64 p), (3, .int .i64 q), (9, .sl 1 8 D), (10, .int .i64 x.k), (11, .int .i64 i.1)], []⟩) (fun i => ks.length - i.1) ⟨0, by omega, by rw [List.drop_zero, kid_zero]; exact hgo⟩ (Sub.lit (by simp [hDm, k7])) ?_
     clear hgo htr
     rintro ⟨i, hi, hR⟩
     simp only
     by_cases hlt : i < ks.length
     ·obtain ⟨u, hu, hu', _⟩ := at_lt' hlt
      have e1 := hwp i u hu
      have e2 := hwq i u hu
      have e3 := hch i u hu
      have hr := hrow i hlt
      have hltD : i < D.length := by omega
      have hwi : IntKind.i64.wrap ((i : Int) + 1) = (i : Int) + 1 := wrap64_in (by omega) (by omega)
      have hr' : D[i]'hltD = [.int .i64 (kidP P ks i : Int)] := (List.getElem?_eq_some_iff.1 hr).2
      rw [kid_drop hu, foL_cons, ← kid_next hu] at hR
      obtain ⟨a, ha⟩ : ∃ a, a = kidP P ks i := ⟨_, rfl⟩
      rw [← ha] at e1 e2 e3 hr hr' hR
      obtain ⟨b1, hb1⟩ : ∃ b1, b1 = inB u a p := ⟨_, rfl⟩
      obtain ⟨b2, hb2⟩ : ∃ b2, b2 = inB u a q := ⟨_, rfl⟩
      rw [← hb1] at e1 hR
      rw [← hb2] at e2 hR
      clear hb1 hb2
      cases b1
      ·simp only [Bool.false_and, Bool.false_eq_true, if_false] at hR
       (refine go1 (aj3 e1 e2 e3) aj0 (aj6 hDl hltD hwi hr hr' hlt) ?_; intros; refine mk_i ?_)
       refine Again.mk ⟨i + 1, by omega, hR⟩ (Sub.lit (by simp [hDm])) (by simp; omega)
       skip
      ·cases b2
       ·simp only [Bool.and_false, Bool.false_eq_true, if_false] at hR
        (refine go1 (aj3 e1 e2 e3) aj0 (aj6 hDl hltD hwi hr hr' hlt) ?_; intros; refine mk_i ?_)
        refine Again.mk ⟨i + 1, by omega, hR⟩ (Sub.lit (by simp [hDm])) (by simp; omega)
        skip
       ·simp only [Bool.and_self, if_true] at hR
        have hR2 : R = foT u a p q := hR
        exact go0 (aj3 e1 e2 e3) aj0 (aj7 hDl hltD hwi hr hr' hlt hR2)
     ·have hkk : i = ks.length := by omega
      subst hkk
      rw [List.drop_length, foL_nil] at hR
      have hR2 : R = (decide (x.k = 4) && irL ks (P + 1) p q) := hR
      by_cases k4 : x.k = 4
      ·rw [decide_eq_true k4, Bool.true_and] at hR2
       rw [← hR2] at hIR
       exact go0 (aj1 hIR) aj0 (aj2 hDl k4)
      ·rw [decide_eq_false k4, Bool.false_and] at hR2
       have b4 : (x.k == 4) = false := by simpa using k4
       exact go0 aj0 aj0 (aj4 hDl k4 b4 hR2)
   ·simp only [Bool.true_and] at hcc
    rw [hcc] at e5
    rcases k67 with k6 | k7
    ·skip
     (refine go1 (aj3 kk e4 e5) aj0 (aj9 @dNd.eq_1 g0 g0' gl hDl hltD0 hr0 hr0' k6) ?_; intros; refine mk_i ?_)
     refine DW_loop (X := {i : Nat // i ≤ ks.length ∧ R = foG x ks P p q (foL (ks.drop i) (kidP P ks i) p q)}) (fun i => ⟨[(0, dNds l), (2, .int .i64 p), (3, .int .i64 q), (9, .sl 1 8 D), (10, .int .i64 x.k), (11, .int .i64 i.1)], []⟩) (fun i => ks.length - i.1) ⟨0, by omega, by rw [List.drop_zero, kid_zero]; exact hgo⟩ (Sub.lit (by simp [hDm, k6])) ?_
     clear hgo htr
     rintro ⟨i, hi, hR⟩
     simp only
     by_cases hlt : i < ks.length
     ·obtain ⟨u, hu, hu', _⟩ := at_lt' hlt
      have e1 := hwp i u hu
      have e2 := hwq i u hu
      have e3 := hch i u hu
      have hr := hrow i hlt
      have hltD : i < D.length := by omega
      have hwi : IntKind.i64.wrap ((i : Int) + 1) = (i : Int) + 1 := wrap64_in (by omega) (by omega)
      have hr' : D[i]'hltD = [.int .i64 (kidP P ks i : Int)] := (List.getElem?_eq_some_iff.1 hr).2
      rw [kid_drop hu, foL_cons, ← kid_next hu] at hR
      obtain ⟨a, ha⟩ : ∃ a, a = kidP P ks i := ⟨_, rfl⟩
      rw [← ha] at e1 e2 e3 hr hr' hR
      obtain ⟨b1, hb1⟩ : ∃ b1, b1 = inB u a p := ⟨_, rfl⟩
      obtain ⟨b2, hb2⟩ : ∃ b2, b2 = inB u a q := ⟨_, rfl⟩
      rw [← hb1] at e1 hR
      rw [← hb2] at e2 hR
      clear hb1 hb2
      cases b1
      ·simp only [Bool.false_and, Bool.false_eq_true, if_false] at hR
       (refine go1 (aj3 e1 e2 e3) aj0 (aj6 hDl hltD hwi hr hr' hlt) ?_; intros; refine mk_i ?_)
       refine Again.mk ⟨i + 1, by omega, hR⟩ (Sub.lit (by simp [hDm])) (by simp; omega)
       skip
      ·cases b2
       ·simp only [Bool.and_false, Bool.false_eq_true, if_false] at hR
        (refine go1 (aj3 e1 e2 e3) aj0 (aj6 hDl hltD hwi hr hr' hlt) ?_; intros; refine mk_i ?_)
        refine Again.mk ⟨i + 1, by omega, hR⟩ (Sub.lit (by simp [hDm])) (by simp; omega)
        skip
       ·simp only [Bool.and_self, if_true] at hR
        have hR2 : R = foT u a p q := hR
        exact go0 (aj3 e1 e2 e3) aj0 (aj7 hDl hltD hwi hr hr' hlt hR2)
     ·have hkk : i = ks.length := by omega
      subst hkk
      rw [List.drop_length, foL_nil] at hR
      have hR2 : R = (decide (x.k = 4) && irL ks (P + 1) p q) := hR
      by_cases k4 : x.k = 4
      ·rw [decide_eq_true k4, Bool.true_and] at hR2
       rw [← hR2] at hIR
       exact go0 (aj1 hIR) aj0 (aj2 hDl k4)
      ·rw [decide_eq_false k4, Bool.false_and] at hR2
       have b4 : (x.k == 4) = false := by simpa using k4
       exact go0 aj0 aj0 (aj4 hDl k4 b4 hR2)
    ·skip
     (refine go1 (aj3 kk e4 e5) aj0 (aj9 @dNd.eq_1 g0 g0' gl hDl hltD0 hr0 hr0' k7) ?_; intros; refine mk_i ?_)
     refine DW_loop (X := {i : Nat // i ≤ ks.length ∧ R = foG x ks P p q (foL (ks.drop i) (kidP P ks i) p q)}) (fun i => ⟨[(0, dNds l), (2, .int .i64 p), (3, .int .i64 q), (9, .sl 1 8 D), (10, .int .i64 x.k), (11, .int .i64 i.1)], []⟩) (fun i => ks.length - i.1) ⟨0, by omega, by rw [List.drop_zero, kid_zero]; exact hgo⟩ (Sub.lit (by simp [hDm, k7])) ?_
     clear hgo htr
     rintro ⟨i, hi, hR⟩
     simp only
     by_cases hlt : i < ks.length
     ·obtain ⟨u, hu, hu', _⟩ := at_lt' hlt
      have e1 := hwp i u hu
      have e2 := hwq i u hu
      have e3 := hch i u hu
      have hr := hrow i hlt
      have hltD : i < D.length := by omega
      have hwi : IntKind.i64.wrap ((i : Int) + 1) = (i : Int) + 1 := wrap64_in (by omega) (by omega)
      have hr' : D[i]'hltD = [.int .i64 (kidP P ks i : Int)] := (List.getElem?_eq_some_iff.1 hr).2
      rw [kid_drop hu, foL_cons, ← kid_next hu] at hR
      obtain ⟨a, ha⟩ : ∃ a, a = kidP P ks i := ⟨_, rfl⟩
      rw [← ha] at e1 e2 e3 hr hr' hR
      obtain ⟨b1, hb1⟩ : ∃ b1, b1 = inB u a p := ⟨_, rfl⟩
      obtain ⟨b2, hb2⟩ : ∃ b2, b2 = inB u a q := ⟨_, rfl⟩
      rw [← hb1] at e1 hR
      rw [← hb2] at e2 hR
      clear hb1 hb2
      cases b1
      ·simp only [Bool.false_and, Bool.false_eq_true, if_false] at hR
       (refine go1 (aj3 e1 e2 e3) aj0 (aj6 hDl hltD hwi hr hr' hlt) ?_; intros; refine mk_i ?_)
       refine Again.mk ⟨i + 1, by omega, hR⟩ (Sub.lit (by simp [hDm])) (by simp; omega)
       skip
      ·cases b2
       ·simp only [Bool.and_false, Bool.false_eq_true, if_false] at hR
        (refine go1 (aj3 e1 e2 e3) aj0 (aj6 hDl hltD hwi hr hr' hlt) ?_; intros; refine mk_i ?_)
        refine Again.mk ⟨i + 1, by omega, hR⟩ (Sub.lit (by simp [hDm])) (by simp; omega)
        skip
       ·simp only [Bool.and_self, if_true] at hR
        have hR2 : R = foT u a p q := hR
        exact go0 (aj3 e1 e2 e3) aj0 (aj7 hDl hltD hwi hr hr' hlt hR2)
     ·have hkk : i = ks.length := by omega
      subst hkk
      rw [List.drop_length, foL_nil] at hR
      have hR2 : R = (decide (x.k = 4) && irL ks (P + 1) p q) := hR
      by_cases k4 : x.k = 4
      ·rw [decide_eq_true k4, Bool.true_and] at hR2
       rw [← hR2] at hIR
       exact go0 (aj1 hIR) aj0 (aj2 hDl k4)
      ·rw [decide_eq_false k4, Bool.false_and] at hR2
       have b4 : (x.k == 4) = false := by simpa using k4
       exact go0 aj0 aj0 (aj4 hDl k4 b4 hR2)
 ·have b6 : (x.k == 6) = false := by simpa using fun h => k67 (.inl h)
  have b7 : (x.k == 7) = false := by simpa using fun h => k67 (.inr h)
  have n6 : ¬ x.k = 6 := fun h => k67 (.inl h)
  have n7 : ¬ x.k = 7 := fun h => k67 (.inr h)
  replace hgo := hgo (by simp [n6, n7])
  (refine go1 (aj1 kk) aj0 (aj8 @dNd.eq_1 g0 g0' gl n6 n7 b6 b7) ?_; intros; refine mk_i ?_)
  refine DW_loop (X := {i : Nat // i ≤ ks.length ∧ R = foG x ks P p q (foL (ks.drop i) (kidP P ks i) p q)}) (fun i => ⟨[(0, dNds l), (2, .int .i64 p), (3, .int .i64 q), (9, .sl 1 8 D), (10, .int .i64 x.k), (11, .int .i64 i.1)], []⟩) (fun i => ks.length - i.1) ⟨0, by omega, by rw [List.drop_zero, kid_zero]; exact hgo⟩ (Sub.lit (by simp [hDm])) ?_
  clear hgo htr
  rintro ⟨i, hi, hR⟩
  simp only
  by_cases hlt : i < ks.length
  ·obtain ⟨u, hu, hu', _⟩ := at_lt' hlt
   have e1 := hwp i u hu
   have e2 := hwq i u hu
   have e3 := hch i u hu
   have hr := hrow i hlt
   have hltD : i < D.length := by omega
   have hwi : IntKind.i64.wrap ((i : Int) + 1) = (i : Int) + 1 := wrap64_in (by omega) (by omega)
   have hr' : D[i]'hltD = [.int .i64 (kidP P ks i : Int)] := (List.getElem?_eq_some_iff.1 hr).2
   rw [kid_drop hu, foL_cons, ← kid_next hu] at hR
   obtain ⟨a, ha⟩ : ∃ a, a = kidP P ks i := ⟨_, rfl⟩
   rw [← ha] at e1 e2 e3 hr hr' hR
   obtain ⟨b1, hb1⟩ : ∃ b1, b1 = inB u a p := ⟨_, rfl⟩
   obtain ⟨b2, hb2⟩ : ∃ b2, b2 = inB u a q := ⟨_, rfl⟩
   rw [← hb1] at e1 hR
   rw [← hb2] at e2 hR
   clear hb1 hb2
   cases b1
   ·simp only [Bool.false_and, Bool.false_eq_true, if_false] at hR
    (refine go1 (aj3 e1 e2 e3) aj0 (aj6 hDl hltD hwi hr hr' hlt) ?_; intros; refine mk_i ?_)
    refine Again.mk ⟨i + 1, by omega, hR⟩ (Sub.lit (by simp [hDm])) (by simp; omega)
    skip
   ·cases b2
    ·simp only [Bool.and_false, Bool.false_eq_true, if_false] at hR
     (refine go1 (aj3 e1 e2 e3) aj0 (aj6 hDl hltD hwi hr hr' hlt) ?_; intros; refine mk_i ?_)
     refine Again.mk ⟨i + 1, by omega, hR⟩ (Sub.lit (by simp [hDm])) (by simp; omega)
     skip
    ·simp only [Bool.and_self, if_true] at hR
     have hR2 : R = foT u a p q := hR
     exact go0 (aj3 e1 e2 e3) aj0 (aj7 hDl hltD hwi hr hr' hlt hR2)
  ·have hkk : i = ks.length := by omega
   subst hkk
   rw [List.drop_length, foL_nil] at hR
   have hR2 : R = (decide (x.k = 4) && irL ks (P + 1) p q) := hR
   by_cases k4 : x.k = 4
   ·rw [decide_eq_true k4, Bool.true_and] at hR2
    rw [← hR2] at hIR
    exact go0 (aj1 hIR) aj0 (aj2 hDl k4)
   ·rw [decide_eq_false k4, Bool.false_and] at hR2
    have b4 : (x.k == 4) = false := by simpa using k4
    exact go0 aj0 aj0 (aj4 hDl k4 b4 hR2)
end Go.Proofs.YtdgocjbakjamaaaGreat
end

section
set_option linter.unusedSectionVars false
/- cmp.Or at three integers; lists without repetitions -/


set_option linter.unusedSimpArgs false
set_option linter.unusedVariables false
namespace Go.Proofs.YtdgocjbakjamaaaGreat
open Go Go.Dm
variable [DMode]
attribute [local irreducible] DW callP callS
set_option maxRecDepth 100000

def anWC1141 : Ann := ⟨[], []⟩
theorem or3_pure (a b c : Int) : DPure Tryz.prog 141 [.sl 1 8 [[.int .i64 a], [.int .i64 b], [.int .i64 c]]] (.int .i64 (if a = 0 then (if b = 0 then c else b) else a)) := by
 refine DPure_introF [] (fn := Tryz.f141) Tryz.func141 rfl Tryz.call141 (by simp [Tryz.ntmps141]) (by simp [mx]) ?_
 intro hwf B hnt
 simp only [Tryz.ntmps141] at hnt
 have hA := an_is anWC1141 Tryz.mixed (aj2 @anWC1141.eq_1 Tryz.results141)
 simp only [argS]
 (refine go1 aj0 aj0 aj0 ?_; intros; refine mk_i ?_)
 refine DW_loop (X := {k : Nat // k ≤ 3 ∧ (0 < k → a = 0) ∧ (1 < k → b = 0) ∧ (2 < k → c = 0)}) (fun k => ⟨[(3, .int .i64 0), (6, .sl 1 8 [[.int .i64 a], [.int .i64 b], [.int .i64 c]]), (7, .int .i64 3), (8, .int .i64 k.1)], []⟩) (fun k => 3 - k.1) ⟨0, by simp⟩ (Sub.lit (by simp)) ?_
 rintro ⟨k, hk, ha, hb, hc⟩
 match k, hk, ha, hb, hc with
 | 0, _, _, _, _ =>
  by_cases h : a = 0
  ·(refine go1 aj0 aj0 (aj1 h) ?_; intros; refine mk_i ?_)
   refine Again.mk ⟨1, by simp [h]⟩ (Sub.lit (by simp)) (by simp)
   skip
  ·have h' : (a != 0) = true := by simpa using h
   exact go0 aj0 aj0 (aj2 h h')
 | 1, _, ha, _, _ =>
  have ha := ha (by omega)
  by_cases h : b = 0
  ·(refine go1 aj0 aj0 (aj1 h) ?_; intros; refine mk_i ?_)
   refine Again.mk ⟨2, by simp [h, ha]⟩ (Sub.lit (by simp)) (by simp)
   skip
  ·have h' : (b != 0) = true := by simpa using h
   exact go0 aj0 aj0 (aj3 h h' ha)
 | 2, _, ha, hb, _ =>
  have ha := ha (by omega)
  have hb := hb (by omega)
  by_cases h : c = 0
  ·(refine go1 aj0 aj0 (aj1 h) ?_; intros; refine mk_i ?_)
   refine Again.mk ⟨3, by simp [h, ha, hb]⟩ (Sub.lit (by simp)) (by simp)
   skip
  ·have h' : (c != 0) = true := by simpa using h
   exact go0 aj0 aj0 (aj4 h h' ha hb)
 | 3, _, ha, hb, hc =>
  have ha := ha (by omega)
  have hb := hb (by omega)
  have hc := hc (by omega)
  exact go0 aj0 aj0 (aj3 ha hb hc)


def compGo {α : Type} (e : α → α → Bool) (p : α) : List α → List α
 | [] => []
 | y :: l => if e y p then compGo e y l else y :: compGo e y l
def compL {α : Type} (e : α → α → Bool) : List α → List α
 | [] => []
 | x :: l => x :: compGo e x l
theorem compGo_snoc {α : Type} {e : α → α → Bool} {y : α} : ∀ {l : List α} {p : α}, compGo e p (l ++ [y]) = compGo e p l ++ (if e y (l.getLast?.getD p) then [] else [y])
 | [], p => by by_cases h : e y p <;> simp [compGo, h]
 | x :: l, p => by
  have h := compGo_snoc (e := e) (y := y) (l := l) (p := x)
  have h2 : (x :: l).getLast?.getD p = l.getLast?.getD x := by
   cases l with
   | nil => rfl
   | cons z l => simp [List.getLast?_cons_cons, List.getLast?_eq_some_getLast]
  rw [h2]
  simp only [List.cons_append, compGo]
  split
  ·exact h
  ·rw [h]; rfl
theorem compL_snoc {α : Type} {e : α → α → Bool} {l : List α} {k : Nat} {x y : α} (h0 : 0 < k) (hx : l[k - 1]? = some x) (hy : l[k]? = some y) : compL e (l.take (k + 1)) = compL e (l.take k) ++ (if e y x then [] else [y]) := by
 rw [List.take_add_one, hy]
 obtain ⟨z, t, hz⟩ : ∃ z t, l.take k = z :: t := by
  cases h : l.take k with
  | nil =>
   have h1 := congrArg List.length h
   have := (List.getElem?_eq_some_iff.1 hy).1
   rw [List.length_take] at h1
   simp only [List.length_nil] at h1
   omega
  | cons z t => exact ⟨z, t, rfl⟩
 have hl : (l.take k).getLast? = some x := by
  rw [List.getLast?_eq_getElem?, List.getElem?_take]
  have := (List.getElem?_eq_some_iff.1 hy).1
  simp only [List.length_take]
  rw [show min k l.length - 1 = k - 1 by omega, if_pos (by omega)]
  exact hx
 rw [hz] at hl ⊢
 have h2 : t.getLast?.getD z = x := by
  cases t with
  | nil => simpa using hl
  | cons a t => simpa [List.getLast?_cons_cons, List.getLast?_eq_some_getLast] using hl
 simp only [Option.toList_some, List.cons_append, compL, compGo_snoc, h2]

end Go.Proofs.YtdgocjbakjamaaaGreat
end

section
set_option linter.unusedSectionVars false
/- numbers compared; orders of symbols -/


set_option linter.unusedSimpArgs false
set_option linter.unusedVariables false
namespace Go.Proofs.YtdgocjbakjamaaaGreat
open Go Go.Dm
variable [DMode]
attribute [local irreducible] DW callP callS
set_option maxRecDepth 100000

def cmpI (a b : Int) : Int := if a < b then -1 else if b < a then 1 else 0
def anWC2220 : Ann := ⟨[], []⟩
theorem isNaN_pure (n : Int) : DPure Tryz.prog 220 [.int .i64 n] (.bool false) := by
 refine DPure_introF [] (fn := Tryz.f220) Tryz.func220 rfl Tryz.call220 (by simp [Tryz.ntmps220]) (by simp [mx]) ?_
 intro hwf B hnt
 simp only [Tryz.ntmps220] at hnt
 have hA := an_is anWC2220 Tryz.mixed (aj2 @anWC2220.eq_1 Tryz.results220)
 simp only [argS]
 exact go0 aj0 aj0 aj0
def anWC2142 : Ann := ⟨[], []⟩
theorem cmpInt_pure (a b : Int) : DPure Tryz.prog 142 [.int .i64 a, .int .i64 b] (.int .i64 (cmpI a b)) := by
 refine DPure_introF [] (fn := Tryz.f142) Tryz.func142 rfl Tryz.call142 (by simp [Tryz.ntmps142]) (by simp [mx]) ?_
 intro hwf B hnt
 simp only [Tryz.ntmps142] at hnt
 have hA := an_is anWC2142 Tryz.mixed (aj2 @anWC2142.eq_1 Tryz.results142)
 simp only [argS]
 by_cases h1 : a < b
 ·exact go0 (aj2 (isNaN_pure a) (isNaN_pure b)) aj0 (aj2 h1 @cmpI.eq_1)
 ·by_cases h2 : b < a
  ·exact go0 (aj2 (isNaN_pure a) (isNaN_pure b)) aj0 (aj3 h1 h2 @cmpI.eq_1)
  ·exact go0 (aj2 (isNaN_pure a) (isNaN_pure b)) aj0 (aj3 h1 h2 @cmpI.eq_1)

def symC (x y : Sym) : Int := if x.label = y.label then cmpI x.n y.n else if x.label then 1 else -1
end Go.Proofs.YtdgocjbakjamaaaGreat
end

section
set_option linter.unusedSectionVars false
/- automata: shapes, what may be, steps -/

set_option linter.unusedSimpArgs false
set_option linter.unusedVariables false
namespace Go.Proofs.YtdgocjbakjamaaaGreat
open Go Go.Dm
variable [DMode]

structure Arc where
 fr : Int
 sy : Sym
 to : Int
 deriving DecidableEq
def dArc (x : Arc) : List DVal := [.int .i64 x.fr, .bool x.sy.label, .int .i64 x.sy.n, .int .i64 x.to]
abbrev dArcs (l : List Arc) : DVal := .sl 4 32 (l.map dArc)
def dNum (n : Int) : List DVal := [.int .i64 n]
abbrev dNums (l : List Int) : DVal := .sl 1 8 (l.map dNum)
def dBl (b : Bool) : List DVal := [.bool b]
structure Auto where
 st : Int
 fin : List Int
 arcs : List Arc
 deriving DecidableEq
def dAuto (a : Auto) : List DVal := [.int .i64 a.st, dNums a.fin, dArcs a.arcs]
@[simp] theorem mx_dArc (s : Arc) : mxL (dArc s) = 0 := by simp [dArc, mxL, mx]
@[simp] theorem mx_dArcs (l : List Arc) : mxR (l.map dArc) = 0 := mxR0 _ mx_dArc l
@[simp] theorem mx_dNum (s : Int) : mxL (dNum s) = 0 := by simp [dNum, mxL, mx]
@[simp] theorem mx_dNums (l : List Int) : mxR (l.map dNum) = 0 := mxR0 _ mx_dNum l
@[simp] theorem mx_dBl (s : Bool) : mxL (dBl s) = 0 := by simp [dBl, mxL, mx]
@[simp] theorem mx_dBls (l : List Bool) : mxR (l.map dBl) = 0 := mxR0 _ mx_dBl l
@[simp] theorem mx_dAuto (a : Auto) : mxL (dAuto a) = 0 := by simp [dAuto, mxL, mx]
theorem len_nums {l : List Int} (h : wfD (dNums l)) : l.length < 9223372036854775807 := by
 simp only [wfD, List.length_map] at h
 omega
theorem len_arcs {l : List Arc} (h : wfD (dArcs l)) : l.length < 9223372036854775807 := by
 simp only [wfD, List.length_map] at h
 omega
theorem w_auto {a : Auto} (h : wfL (dAuto a)) : inR .i64 a.st ∧ a.fin.length < 9223372036854775807 ∧ a.arcs.length < 9223372036854775807 := by
 simp only [dAuto, wfL] at h
 exact ⟨by have := h.1; simpa only [wfD] using this, len_nums h.2.1, len_arcs h.2.2.1⟩

theorem range_all_succ {n : Nat} (f : Nat → Bool) : (List.range (n + 1)).all f = ((List.range n).all f && f n) := by
 rw [List.range_succ, List.all_append]; simp
def stB (s q : Int) : Bool := decide (0 ≤ q) && decide (q < s)
def okF (s : Int) (l : List Int) (k : Nat) : Bool := match l[k]? with
 | none => true
 | some q => stB s q && (decide (k = 0) || match l[k - 1]? with | none => true | some p => decide (p < q))
theorem okF_zero {s : Int} {l : List Int} {q : Int} (h : l[0]? = some q) : okF s l 0 = stB s q := by
 unfold okF; rw [h]; simp
theorem okF_pos {s : Int} {l : List Int} {k : Nat} {p q : Int} (hk : 0 < k) (h : l[k]? = some q) (hp : l[k - 1]? = some p) : okF s l k = (stB s q && decide (p < q)) := by
 unfold okF; rw [h]
 simp only [hp, show ¬ k = 0 by omega, decide_false, Bool.false_or]
def arcC (x y : Arc) : Int := if cmpI x.fr y.fr = 0 then (if symC x.sy y.sy = 0 then cmpI x.to y.to else symC x.sy y.sy) else cmpI x.fr y.fr
def symLess (x y : Sym) : Bool := if x.label = y.label then decide (x.n < y.n) else y.label
def arcLess (x y : Arc) : Bool := if x.fr = y.fr then (if x.sy = y.sy then decide (x.to < y.to) else symLess x.sy y.sy) else decide (x.fr < y.fr)
theorem cmpI_zero {a b : Int} : cmpI a b = 0 ↔ a = b := by unfold cmpI; split <;> (try split) <;> omega
theorem cmpI_neg {a b : Int} : cmpI a b < 0 ↔ a < b := by unfold cmpI; split <;> (try split) <;> omega
theorem symC_zero {x y : Sym} : symC x y = 0 ↔ x = y := by
 obtain ⟨a, n⟩ := x
 obtain ⟨b, m⟩ := y
 unfold symC
 cases a <;> cases b <;> simp [cmpI_zero]
theorem symLess_eq (x y : Sym) : symLess x y = decide (symC x y < 0) := by
 obtain ⟨a, n⟩ := x
 obtain ⟨b, m⟩ := y
 unfold symC symLess
 cases a <;> cases b <;> simp [cmpI_neg]
theorem arcLess_eq (x y : Arc) : arcLess x y = decide (arcC x y < 0) := by
 unfold arcLess arcC
 by_cases h1 : x.fr = y.fr
 ·rw [if_pos h1, if_pos (cmpI_zero.2 h1)]
  by_cases h2 : x.sy = y.sy
  ·rw [if_pos h2, if_pos (symC_zero.2 h2)]
   exact decide_eq_decide.2 cmpI_neg.symm
  ·rw [if_neg h2, if_neg (fun h => h2 (symC_zero.1 h)), symLess_eq]
 ·rw [if_neg h1, if_neg (fun h => h1 (cmpI_zero.1 h))]
  exact decide_eq_decide.2 cmpI_neg.symm
def arcOK (s : Int) (x : Arc) : Bool := stB s x.fr && (stB s x.to && decide (0 ≤ x.sy.n))
def okA (s : Int) (l : List Arc) (k : Nat) : Bool := match l[k]? with
 | none => true
 | some q => arcOK s q && (decide (k = 0) || match l[k - 1]? with | none => true | some p => arcLess p q)
theorem okA_zero {s : Int} {l : List Arc} {q : Arc} (h : l[0]? = some q) : okA s l 0 = arcOK s q := by
 unfold okA; rw [h]; simp
theorem okA_pos {s : Int} {l : List Arc} {k : Nat} {p q : Arc} (hk : 0 < k) (h : l[k]? = some q) (hp : l[k - 1]? = some p) : okA s l k = (arcOK s q && arcLess p q) := by
 unfold okA; rw [h]
 simp only [hp, show ¬ k = 0 by omega, decide_false, Bool.false_or]
def autoOK (a : Auto) : Bool := decide (1 ≤ a.st) && decide (a.st ≤ 65) && ((List.range a.fin.length).all (okF a.st a.fin) && (List.range a.arcs.length).all (okA a.st a.arcs))
def bD (l : List Bool) : List (List DVal) := l.map dBl
@[simp] theorem mx_bD (l : List Bool) : mxR (bD l) = 0 := mx_dBls l
end Go.Proofs.YtdgocjbakjamaaaGreat
end

section
set_option linter.unusedSectionVars false
/- Orders told by a comparison; the one sorted list: plain Lean. -/

set_option linter.unusedSimpArgs false
set_option linter.unusedVariables false
namespace Go.Proofs.YtdgocjbakjamaaaGreat
open Go Go.Dm
variable [DMode]

structure OrdC {α : Type} (c : α → α → Int) : Prop where
 eq0 : ∀ x y, c x y = 0 ↔ x = y
 anti : ∀ x y, c x y < 0 ↔ 0 < c y x
 trans : ∀ x y z, c x y < 0 → c y z < 0 → c x z < 0
theorem OrdC.refl {α : Type} {c : α → α → Int} (h : OrdC c) (x : α) : c x x = 0 := (h.eq0 x x).2 rfl
theorem OrdC.nle {α : Type} {c : α → α → Int} (h : OrdC c) {x y : α} : ¬ c x y < 0 ↔ c y x < 0 ∨ x = y := by
 have h1 := h.anti x y
 have h2 := h.anti y x
 have h3 := h.eq0 x y
 constructor
 ·intro hn
  by_cases h0 : c x y = 0
  ·exact .inr (h3.1 h0)
  ·exact .inl (h2.2 (by omega))
 ·rintro (h4 | rfl)
  ·have := h2.1 h4; omega
  ·rw [h.refl]; omega
theorem OrdC.ntrans {α : Type} {c : α → α → Int} (h : OrdC c) (x y z : α) (h1 : ¬ c x y < 0) (h2 : ¬ c y z < 0) : ¬ c x z < 0 := by
 rw [h.nle] at *
 rcases h1 with h1 | rfl
 ·rcases h2 with h2 | rfl
  ·exact .inl (h.trans _ _ _ h2 h1)
  ·exact .inl h1
 ·exact h2
theorem OrdC.le_anti {α : Type} {c : α → α → Int} (h : OrdC c) {x y : α} (h1 : ¬ c x y < 0) (h2 : ¬ c y x < 0) : x = y := by
 rcases h.nle.1 h1 with h1 | h1
 ·exact absurd h1 h2
 ·exact h1
theorem OrdC.total {α : Type} {c : α → α → Int} (h : OrdC c) (x y : α) : ¬ c x y < 0 ∨ ¬ c y x < 0 := by
 by_cases h1 : c x y < 0
 ·right; have := (h.anti x y).1 h1; omega
 ·exact .inl h1

theorem ordI : OrdC cmpI := by
 refine ⟨fun x y => ?_, fun x y => ?_, fun x y z => ?_⟩ <;> unfold cmpI
 ·split
  ·constructor <;> intro h <;> omega
  ·split
   ·constructor <;> intro h <;> omega
   ·constructor <;> intro h <;> omega
 ·by_cases h1 : x < y <;> by_cases h2 : y < x <;> simp [h1, h2] <;> omega
 ·by_cases h1 : x < y <;> by_cases h2 : y < z <;> by_cases h3 : x < z <;> simp [h1, h2, h3] <;> (try split) <;> (try split) <;> omega

def lexC {α β : Type} (c : α → α → Int) (d : β → β → Int) (x y : α × β) : Int := if c x.1 y.1 = 0 then d x.2 y.2 else c x.1 y.1
theorem ordLex {α β : Type} {c : α → α → Int} {d : β → β → Int} (h : OrdC c) (k : OrdC d) : OrdC (lexC c d) := by
 refine ⟨fun x y => ?_, fun x y => ?_, fun x y z => ?_⟩ <;> unfold lexC
 ·obtain ⟨x1, x2⟩ := x
  obtain ⟨y1, y2⟩ := y
  simp only [_root_.Prod.mk.injEq]
  split
  ·rename_i h0
   rw [k.eq0]
   exact ⟨fun hh => ⟨(h.eq0 _ _).1 h0, hh⟩, fun hh => hh.2⟩
  ·rename_i h0
   exact ⟨fun hh => absurd hh h0, fun hh => absurd ((h.eq0 _ _).2 hh.1) h0⟩
 ·by_cases h0 : c x.1 y.1 = 0
  ·have h1 : c y.1 x.1 = 0 := (h.eq0 _ _).2 ((h.eq0 _ _).1 h0).symm
   rw [if_pos h0, if_pos h1]; exact k.anti _ _
  ·have h1 : ¬ c y.1 x.1 = 0 := fun hh => h0 ((h.eq0 _ _).2 ((h.eq0 _ _).1 hh).symm)
   rw [if_neg h0, if_neg h1]; exact h.anti _ _
 ·by_cases h0 : c x.1 y.1 = 0
  ·have e0 := (h.eq0 _ _).1 h0
   rw [if_pos h0]
   by_cases h1 : c y.1 z.1 = 0
   ·have e1 := (h.eq0 _ _).1 h1
    have h2 : c x.1 z.1 = 0 := (h.eq0 _ _).2 (e0.trans e1)
    rw [if_pos h1, if_pos h2]; exact k.trans _ _ _
   ·have h2 : ¬ c x.1 z.1 = 0 := by rw [e0]; exact h1
    rw [if_neg h1, if_neg h2, e0]; exact fun _ hh => hh
  ·rw [if_neg h0]
   by_cases h1 : c y.1 z.1 = 0
   ·have e1 := (h.eq0 _ _).1 h1
    have h2 : ¬ c x.1 z.1 = 0 := by rw [← e1]; exact h0
    rw [if_pos h1, if_neg h2, ← e1]; exact fun hh _ => hh
   ·rw [if_neg h1]
    intro h3 h4
    have h5 := h.trans _ _ _ h3 h4
    have h2 : ¬ c x.1 z.1 = 0 := by omega
    rw [if_neg h2]; exact h5
theorem ordKey {α β : Type} {c : α → α → Int} (h : OrdC c) (f : β → α) (hf : ∀ x y, f x = f y → x = y) : OrdC (fun x y => c (f x) (f y)) :=
 ⟨fun x y => by rw [h.eq0]; exact ⟨hf _ _, fun hh => by rw [hh]⟩, fun x y => h.anti _ _, fun x y z => h.trans _ _ _⟩
theorem ordSym : OrdC symC := by
 have h := ordKey (ordLex ordI ordI) (fun s : Sym => ((if s.label then 1 else 0 : Int), s.n)) (by
  rintro ⟨l, n⟩ ⟨l', n'⟩ hh
  simp only [_root_.Prod.mk.injEq] at hh
  obtain ⟨h1, rfl⟩ := hh
  cases l <;> cases l' <;> simp_all)
 have e : symC = fun x y : Sym => lexC cmpI cmpI ((if x.label then 1 else 0 : Int), x.n) ((if y.label then 1 else 0 : Int), y.n) := by
  funext x y
  obtain ⟨l, n⟩ := x
  obtain ⟨l', n'⟩ := y
  cases l <;> cases l' <;> simp [symC, lexC, cmpI]
 rw [e]; exact h
def sortC {α : Type} (c : α → α → Int) (l : List α) : List α := l.mergeSort (fun x y => !decide (c y x < 0))
theorem sortC_perm {α : Type} (c : α → α → Int) (l : List α) : (sortC c l).Perm l := List.mergeSort_perm _ _
theorem sortC_sorted {α : Type} {c : α → α → Int} (h : OrdC c) (l : List α) : (sortC c l).Pairwise (fun x y => ¬ c y x < 0) := by
 have := List.pairwise_mergeSort (le := fun x y => !decide (c y x < 0)) (by
  intro a b d h1 h2
  simp only [Bool.not_eq_true', decide_eq_false_iff_not] at *
  exact h.ntrans _ _ _ h2 h1) (by
  intro a b
  simp only [Bool.or_eq_true, Bool.not_eq_true', decide_eq_false_iff_not]
  exact h.total b a) l
 exact this.imp fun h => by simpa using h
theorem sorted_eq {α : Type} {c : α → α → Int} (h : OrdC c) {a b : List α} (hp : a.Perm b) (ha : a.Pairwise (fun x y => ¬ c y x < 0)) (hb : b.Pairwise (fun x y => ¬ c y x < 0)) : a = b :=
 List.Perm.eq_of_pairwise (le := fun x y => ¬ c y x < 0) (fun x y _ _ h1 h2 => h.le_anti h2 h1) ha hb hp

theorem uniq_rows {α : Type} {c : α → α → Int} (h : OrdC c) {d : α → List DVal} {u : List DVal → α} (hu : ∀ x, u (d x) = x) {l : List α} {L : List (List DVal)} (hp : L.Perm (l.map d)) (hs : L.Pairwise (fun x y => ¬ c (u y) (u x) < 0)) : L = (sortC c l).map d := by
 have h1 : (L.map u).Perm l := by
  have := hp.map u
  rwa [List.map_map, show u ∘ d = id from funext hu, List.map_id] at this
 have h2 : (L.map u).Pairwise (fun x y => ¬ c y x < 0) := by rw [List.pairwise_map]; exact hs
 have h3 := sorted_eq h (h1.trans (sortC_perm c l).symm) h2 (sortC_sorted h l)
 have h4 : L = (L.map u).map d := by
  rw [List.map_map]
  have h5 : ∀ x ∈ L, (d ∘ u) x = id x := by
   intro x hx
   obtain ⟨y, _, rfl⟩ := List.mem_map.1 (hp.mem_iff.1 hx)
   simp [hu]
  rw [List.map_congr_left h5, List.map_id]
 rw [h4, h3]
end Go.Proofs.YtdgocjbakjamaaaGreat
end

section
set_option linter.unusedSectionVars false
/- Sorted once: insertion tells the same as sorting and leaving out what is twice. Plain Lean. -/


set_option linter.unusedSimpArgs false
set_option linter.unusedVariables false
namespace Go.Proofs.YtdgocjbakjamaaaGreat
open Go Go.Dm
variable [DMode]

def insC {α : Type} (c : α → α → Int) : List α → α → List α
 | [], p => [p]
 | x :: l, p => if c x p < 0 then x :: insC c l p else if c p x < 0 then p :: x :: l else x :: l
theorem mem_insC {α : Type} {c : α → α → Int} (h : OrdC c) {p z : α} : ∀ {l : List α}, z ∈ insC c l p ↔ z = p ∨ z ∈ l
 | [] => by simp [insC]
 | x :: l => by
  have ih := mem_insC h (p := p) (z := z) (l := l)
  simp only [insC]
  split
  ·rw [List.mem_cons, ih, List.mem_cons]
   exact ⟨fun hh => by rcases hh with a | a | a <;> simp [a], fun hh => by rcases hh with a | a | a <;> simp [a]⟩
  ·rename_i h1
   split
   ·simp only [List.mem_cons]
   ·rename_i h2
    have := h.le_anti h1 h2
    subst this
    simp only [List.mem_cons]
    exact ⟨.inr, fun hh => by
     rcases hh with a | a
     ·exact .inl a
     ·exact a⟩
def strictC {α : Type} (c : α → α → Int) (l : List α) : Prop := l.Pairwise (fun x y => c x y < 0)
theorem insC_strict {α : Type} {c : α → α → Int} (h : OrdC c) {p : α} : ∀ {l : List α}, strictC c l → strictC c (insC c l p)
 | [], _ => by simp [insC, strictC]
 | x :: l, hs => by
  obtain ⟨h1, h2⟩ := List.pairwise_cons.1 hs
  simp only [insC]
  split
  ·rename_i hx
   refine List.pairwise_cons.2 ⟨fun z hz => ?_, insC_strict h h2⟩
   rcases (mem_insC h).1 hz with rfl | hz
   ·exact hx
   ·exact h1 z hz
  ·split
   ·rename_i hx
    refine List.pairwise_cons.2 ⟨fun z hz => ?_, hs⟩
    rcases List.mem_cons.1 hz with rfl | hz
    ·exact hx
    ·exact h.trans _ _ _ hx (h1 z hz)
   ·exact hs
theorem fold_strict {α : Type} {c : α → α → Int} (h : OrdC c) : ∀ (l a : List α), strictC c a → strictC c (l.foldl (insC c) a) ∧ ∀ z, z ∈ l.foldl (insC c) a ↔ z ∈ l ∨ z ∈ a
 | [], a, ha => ⟨ha, by simp⟩
 | x :: l, a, ha => by
  obtain ⟨h1, h2⟩ := fold_strict h l (insC c a x) (insC_strict h ha)
  refine ⟨h1, fun z => ?_⟩
  rw [List.foldl_cons, h2, mem_insC h, List.mem_cons]
  exact ⟨fun hh => by rcases hh with q | q | q <;> simp [q], fun hh => by rcases hh with (q | q) | q <;> simp [q]⟩
theorem strict_irr {α : Type} {c : α → α → Int} (h : OrdC c) {x : α} : ¬ c x x < 0 := by rw [h.refl]; omega
theorem strict_eq {α : Type} {c : α → α → Int} (h : OrdC c) : ∀ {a b : List α}, strictC c a → strictC c b → (∀ z, z ∈ a ↔ z ∈ b) → a = b
 | [], [], _, _, _ => rfl
 | [], y :: b, _, _, hm => by have := (hm y).2 List.mem_cons_self; simp at this
 | x :: a, [], _, _, hm => by have := (hm x).1 List.mem_cons_self; simp at this
 | x :: a, y :: b, ha, hb, hm => by
  obtain ⟨a1, a2⟩ := List.pairwise_cons.1 ha
  obtain ⟨b1, b2⟩ := List.pairwise_cons.1 hb
  have hxy : x = y := by
   rcases List.mem_cons.1 ((hm x).1 List.mem_cons_self) with h1 | h1
   ·exact h1
   ·rcases List.mem_cons.1 ((hm y).2 List.mem_cons_self) with h2 | h2
    ·exact h2.symm
    ·exact absurd (h.trans _ _ _ (a1 y h2) (b1 x h1)) (strict_irr h)
  subst hxy
  rw [strict_eq h a2 b2 fun z => ?_]
  constructor
  ·intro hz
   rcases List.mem_cons.1 ((hm z).1 (List.mem_cons_of_mem _ hz)) with h1 | h1
   ·subst h1; exact absurd (a1 z hz) (strict_irr h)
   ·exact h1
  ·intro hz
   rcases List.mem_cons.1 ((hm z).2 (List.mem_cons_of_mem _ hz)) with h1 | h1
   ·subst h1; exact absurd (b1 z hz) (strict_irr h)
   ·exact h1

theorem compGo_strict {α : Type} {c : α → α → Int} (h : OrdC c) : ∀ {l : List α} {p : α}, (p :: l).Pairwise (fun x y => ¬ c y x < 0) → strictC c (p :: compGo (fun x y => c x y == 0) p l) ∧ ∀ z, z ∈ p :: compGo (fun x y => c x y == 0) p l ↔ z ∈ p :: l
 | [], p, _ => by simp [compGo, strictC]
 | y :: l, p, hs => by
  obtain ⟨h1, h2⟩ := List.pairwise_cons.1 hs
  obtain ⟨i1, i2⟩ := compGo_strict h h2
  simp only [compGo]
  split
  ·rename_i he
   have : y = p := (h.eq0 _ _).1 (by simpa using he)
   subst this
   exact ⟨i1, fun z => by rw [i2]; simp⟩
  ·rename_i he
   have hne : y ≠ p := fun hh => he (by subst hh; simp [h.refl])
   have hlt : c p y < 0 := by
    rcases h.nle.1 (h1 y List.mem_cons_self) with h3 | h3
    ·exact h3
    ·exact absurd h3 hne
   refine ⟨List.pairwise_cons.2 ⟨fun z hz => ?_, i1⟩, fun z => ?_⟩
   ·obtain ⟨j1, _⟩ := List.pairwise_cons.1 i1
    rcases List.mem_cons.1 hz with rfl | hz
    ·exact hlt
    ·exact h.trans _ _ _ hlt (j1 z hz)
   ·have := i2 z
    rw [List.mem_cons, this]
    simp [List.mem_cons]
theorem compL_strict {α : Type} {c : α → α → Int} (h : OrdC c) {l : List α} (hs : l.Pairwise (fun x y => ¬ c y x < 0)) : strictC c (compL (fun x y => c x y == 0) l) ∧ ∀ z, z ∈ compL (fun x y => c x y == 0) l ↔ z ∈ l := by
 cases l with
 | nil => simp [compL, strictC]
 | cons x l => exact compGo_strict h hs

theorem fold_ins {α : Type} {c : α → α → Int} (h : OrdC c) (l : List α) : l.foldl (insC c) [] = compL (fun x y => c x y == 0) (sortC c l) := by
 obtain ⟨h1, h2⟩ := fold_strict h l [] List.Pairwise.nil
 obtain ⟨h3, h4⟩ := compL_strict h (sortC_sorted h l)
 refine strict_eq h h1 h3 fun z => ?_
 rw [h2, h4, (sortC_perm c l).mem_iff]
 simp
end Go.Proofs.YtdgocjbakjamaaaGreat
end

section
set_option linter.unusedSectionVars false
/- Boxes: arcs and finals of trees in a row, told by lists and place by place. Plain Lean. -/




set_option linter.unusedSimpArgs false
set_option linter.unusedVariables false
namespace Go.Proofs.YtdgocjbakjamaaaGreat
open Go Go.Dm
variable [DMode]

theorem isOcc_iff {x : Nd} : isOcc x = true ↔ x.k = 2 ∨ x.k = 3 := by unfold isOcc; simp
def rkN (l : List Nd) (p : Nat) : Nat := ((l.take p).filter isOcc).length
def lvs (l : List Nd) : List Nd := l.filter isOcc
theorem rkN_zero (l : List Nd) : rkN l 0 = 0 := by simp [rkN]
theorem rkN_all (l : List Nd) : rkN l l.length = (lvs l).length := by simp [rkN, lvs]
theorem rkN_succ {l : List Nd} {p : Nat} {x : Nd} (h : l[p]? = some x) : rkN l (p + 1) = rkN l p + (if isOcc x = true then 1 else 0) := by
 unfold rkN
 rw [List.take_add_one, h, List.filter_append]
 cases hx : isOcc x <;> simp [hx]
theorem rkN_mono (l : List Nd) {p q : Nat} (h : p ≤ q) : rkN l p ≤ rkN l q := by
 unfold rkN
 obtain ⟨d, rfl⟩ : ∃ d, q = p + d := ⟨q - p, by omega⟩
 rw [List.take_add, List.filter_append, List.length_append]
 omega
theorem rkN_lt {l : List Nd} {p q : Nat} {x : Nd} (h : l[p]? = some x) (hx : isOcc x = true) (hq : p < q) : rkN l p < rkN l q := by
 have h1 := rkN_succ h
 rw [if_pos hx] at h1
 have := rkN_mono l (show p + 1 ≤ q from hq)
 omega
theorem lvs_at {l : List Nd} {p : Nat} {x : Nd} (h : l[p]? = some x) (hx : isOcc x = true) : (lvs l)[rkN l p]? = some x := by
 obtain ⟨hp, rfl⟩ := List.getElem?_eq_some_iff.1 h
 unfold lvs rkN
 have h1 : l.filter isOcc = (l.take p).filter isOcc ++ (l[p] :: (l.drop (p + 1)).filter isOcc) := by
  have h2 : l = l.take p ++ l[p] :: l.drop (p + 1) := by rw [← List.drop_eq_getElem_cons hp, List.take_append_drop]
  have h3 := congrArg (List.filter isOcc) h2
  rw [List.filter_append, List.filter_cons, if_pos hx] at h3
  exact h3
 rw [h1, List.getElem?_append_right (Nat.le_refl _), Nat.sub_self]
 rfl
theorem occTo_len {l : List Nd} : ∀ {n : Nat}, n ≤ l.length → (occTo l n).length = rkN l n
 | 0, _ => by simp [occTo, rkN]
 | n + 1, h => by
  have hn : l[n]? = some (l[n]'(by omega)) := List.getElem?_eq_getElem (by omega)
  rw [occTo_succ hn, rkN_succ hn, List.length_append, occTo_len (by omega)]
  cases isOcc l[n] <;> simp
theorem occN_lvs (l : List Nd) : occN l = (lvs l).length := by unfold occN; rw [occTo_len (Nat.le_refl _), rkN_all]

def isPl (l : List Nd) (i : Nat) : Bool := match l[i]? with | some x => isOcc x | none => false
def plN (l : List Nd) (n : Nat) : List Nat := (List.range n).filter (isPl l)
theorem plN_zero (l : List Nd) : plN l 0 = [] := rfl
theorem plN_succ {l : List Nd} {n : Nat} {x : Nd} (h : l[n]? = some x) : plN l (n + 1) = plN l n ++ (if isOcc x = true then [n] else []) := by
 unfold plN
 rw [List.range_succ, List.filter_append]
 have : isPl l n = isOcc x := by unfold isPl; rw [h]
 cases hx : isOcc x <;> simp [this, hx]
theorem isPl_iff {l : List Nd} {i : Nat} : isPl l i = true ↔ ∃ x, l[i]? = some x ∧ isOcc x = true := by
 unfold isPl
 cases l[i]? <;> simp
theorem mem_plN {l : List Nd} {i : Nat} : i ∈ plN l l.length ↔ ∃ x, l[i]? = some x ∧ isOcc x = true := by
 unfold plN
 rw [List.mem_filter, List.mem_range, isPl_iff]
 exact ⟨fun h => h.2, fun h => ⟨(List.getElem?_eq_some_iff.1 h.choose_spec.1).1, h⟩⟩
theorem plN_len {l : List Nd} : ∀ {n : Nat}, n ≤ l.length → (plN l n).length = rkN l n
 | 0, _ => by simp [plN, rkN]
 | n + 1, h => by
  have hn : l[n]? = some (l[n]'(by omega)) := List.getElem?_eq_getElem (by omega)
  rw [plN_succ hn, rkN_succ hn, List.length_append, plN_len (by omega)]
  cases isOcc l[n] <;> simp
theorem plN_rank {l : List Nd} : ∀ {n j p : Nat}, n ≤ l.length → (plN l n)[j]? = some p → rkN l p = j
 | 0, j, p, _, h => by simp [plN] at h
 | n + 1, j, p, hn, h => by
  have hx : l[n]? = some (l[n]'(by omega)) := List.getElem?_eq_getElem (by omega)
  rw [plN_succ hx] at h
  have hl := plN_len (l := l) (n := n) (by omega)
  by_cases hj : j < (plN l n).length
  ·rw [List.getElem?_append_left hj] at h
   exact plN_rank (by omega) h
  ·rw [List.getElem?_append_right (by omega)] at h
   split at h
   ·have : j - (plN l n).length = 0 := by
     rcases Nat.eq_zero_or_pos (j - (plN l n).length) with h0 | h0
     ·exact h0
     ·rw [List.getElem?_eq_none (by simp; omega)] at h; simp at h
    rw [this] at h
    simp at h
    subst h
    omega
   ·simp at h
theorem plN_pw (l : List Nd) (n : Nat) : (plN l n).Pairwise (· < ·) := (List.pairwise_lt_range).filter _

def num (l : List Nd) (ah p : Nat) : Nat := ah + rkN l p + 1
def num2 (l : List Nd) (ah : Nat) (p : Nat × Nat) : Nat × Nat := (num l ah p.1, num l ah p.2)
def nd (l : List Nd) (p : Nat) : Nd := l.getD p ⟨0, ⟨#[]⟩, 0⟩
theorem nd_at {l : List Nd} {p : Nat} {x : Nd} (h : l[p]? = some x) : nd l p = x := by unfold nd; rw [List.getD_eq_getElem?_getD, h]; rfl

def prL : Nat → List RT → List (Nat × Nat)
 | _, [] => []
 | ah, t :: ts => (arT t 0).map (num2 (flat t) ah) ++ prL (ah + (lvs (flat t)).length) ts
def fiN : Nat → List RT → List Nat
 | _, [] => []
 | ah, t :: ts => (fiT t 0).map (num (flat t) ah) ++ fiN (ah + (lvs (flat t)).length) ts
def laN : Nat → List RT → List Nat
 | _, [] => []
 | ah, t :: ts => (laT t 0).map (num (flat t) ah) ++ laN (ah + (lvs (flat t)).length) ts
def lvL (ts : List RT) : List Nd := ts.flatMap fun t => lvs (flat t)
def syL (sy : Nd → Sym) (ts : List RT) : List Sym := (lvL ts).map sy
theorem lvL_snoc (ts : List RT) (t : RT) : lvL (ts ++ [t]) = lvL ts ++ lvs (flat t) := by simp [lvL]
theorem prL_snoc (t : RT) : ∀ (ts : List RT) (ah : Nat), prL ah (ts ++ [t]) = prL ah ts ++ (arT t 0).map (num2 (flat t) (ah + (lvL ts).length))
 | [], ah => by simp [prL, lvL]
 | u :: ts, ah => by
  rw [List.cons_append, prL, prL, prL_snoc t ts, List.append_assoc, Nat.add_assoc]
  simp [lvL]
theorem fiN_snoc (t : RT) : ∀ (ts : List RT) (ah : Nat), fiN ah (ts ++ [t]) = fiN ah ts ++ (fiT t 0).map (num (flat t) (ah + (lvL ts).length))
 | [], ah => by simp [fiN, lvL]
 | u :: ts, ah => by
  rw [List.cons_append, fiN, fiN, fiN_snoc t ts, List.append_assoc, Nat.add_assoc]
  simp [lvL]
theorem laN_snoc (t : RT) : ∀ (ts : List RT) (ah : Nat), laN ah (ts ++ [t]) = laN ah ts ++ (laT t 0).map (num (flat t) (ah + (lvL ts).length))
 | [], ah => by simp [laN, lvL]
 | u :: ts, ah => by
  rw [List.cons_append, laN, laN, laN_snoc t ts, List.append_assoc, Nat.add_assoc]
  simp [lvL]

def arcJ (S : List Sym) (p : Nat × Nat) : Arc := ⟨(p.1 : Int), S.getD (p.2 - 1) ⟨false, 0⟩, (p.2 : Int)⟩
def arcsP (sy : Nd → Sym) (ts : List RT) : List Arc := (prL 0 ts ++ (fiN 0 ts).map fun q => (0, q)).map (arcJ (syL sy ts))
def arcsQ (sy : Nd → Sym) (ah : Nat) (t : RT) (q : Nat) : List Arc :=
 (if bgT t 0 q then [⟨0, sy (nd (flat t) q), (num (flat t) ah q : Int)⟩] else []) ++
  (plN (flat t) (flat t).length).flatMap fun p => if foT t 0 p q then [⟨(num (flat t) ah p : Int), sy (nd (flat t) q), (num (flat t) ah q : Int)⟩] else []
def arcsR (sy : Nd → Sym) : Nat → List RT → List Arc
 | _, [] => []
 | ah, t :: ts => (plN (flat t) (flat t).length).flatMap (arcsQ sy ah t) ++ arcsR sy (ah + (lvs (flat t)).length) ts
theorem arcsR_snoc (sy : Nd → Sym) (t : RT) : ∀ (ts : List RT) (ah : Nat), arcsR sy ah (ts ++ [t]) = arcsR sy ah ts ++ (plN (flat t) (flat t).length).flatMap (arcsQ sy (ah + (lvL ts).length) t)
 | [], ah => by simp [arcsR, lvL]
 | u :: ts, ah => by
  rw [List.cons_append, arcsR, arcsR, arcsR_snoc sy t ts, List.append_assoc, Nat.add_assoc]
  simp [lvL]
theorem lf_of {l : List Nd} {q : Nat} (h : ∃ x, l[q]? = some x ∧ isOcc x = true) : Lf l 0 q := fun y _ hy => by
 obtain ⟨x, hx, hk⟩ := h
 rw [Nat.sub_zero, hx] at hy
 simp only [Option.some.injEq] at hy
 subst hy
 exact isOcc_iff.1 hk
theorem mem_arcs (sy : Nd → Sym) (S : List Sym) (z : Arc) : ∀ (ts : List RT) (ah : Nat), (∀ t ∈ ts, okT t = true) → S.drop ah = syL sy ts →
  (z ∈ (prL ah ts ++ (fiN ah ts).map fun q => (0, q)).map (arcJ S) ↔ z ∈ arcsR sy ah ts)
 | [], ah, _, _ => by simp [prL, fiN, arcsR]
 | t :: ts, ah, hok, hS => by
  have hS1 : syL sy (t :: ts) = (lvs (flat t)).map sy ++ syL sy ts := by simp [syL, lvL]
  rw [hS1] at hS
  have hS2 : S.drop (ah + (lvs (flat t)).length) = syL sy ts := by
   rw [← List.drop_drop, hS, List.drop_append_of_le_length (by simp)]
   rw [show (lvs (flat t)).length = ((lvs (flat t)).map sy).length by simp, List.drop_length, List.nil_append]
  have ih := mem_arcs sy S z ts (ah + (lvs (flat t)).length) (fun u hu => hok u (List.mem_cons_of_mem _ hu)) hS2
  obtain ⟨l, hl⟩ : ∃ l, l = flat t := ⟨_, rfl⟩
  have look : ∀ {q : Nat} {x : Nd}, l[q]? = some x → isOcc x = true → S.getD (num l ah q - 1) ⟨false, 0⟩ = sy x := by
   intro q x hx hk
   have h1 := lvs_at hx hk
   have h2 : (S.drop ah)[rkN l q]? = some (sy x) := by
    have hlt := (List.getElem?_eq_some_iff.1 h1).1
    rw [hS, ← hl, List.getElem?_append_left (by simpa using hlt), List.getElem?_map, h1]
    rfl
   rw [List.getElem?_drop] at h2
   unfold num
   rw [List.getD_eq_getElem?_getD, Nat.add_sub_cancel, h2]
   rfl
  have hokt := hok t List.mem_cons_self
  rw [← hl] at ih
  rw [prL, fiN, arcsR, ← hl]
  simp only [List.map_append, List.mem_append] at ih ⊢
  have here : (z ∈ ((arT t 0).map (num2 l ah)).map (arcJ S) ∨ z ∈ (((fiT t 0).map (num l ah)).map fun q => (0, q)).map (arcJ S)) ↔ z ∈ (plN l l.length).flatMap (arcsQ sy ah t) := by
   simp only [List.mem_flatMap, mem_plN]
   constructor
   ·rintro (h | h)
    ·simp only [List.mem_map] at h
     obtain ⟨_, ⟨⟨p, q⟩, hpq, rfl⟩, rfl⟩ := h
     obtain ⟨⟨x, hx, hxk⟩, ⟨y, hy, hyk⟩⟩ := arT_leaf t 0 p q hpq
     rw [Nat.sub_zero, ← hl] at hx hy
     refine ⟨q, ⟨y, hy, isOcc_iff.2 hyk⟩, ?_⟩
     unfold arcsQ
     rw [List.mem_append, List.mem_flatMap, ← hl]
     right
     refine ⟨p, mem_plN.2 ⟨x, hx, isOcc_iff.2 hxk⟩, ?_⟩
     rw [if_pos ((fo_iff t 0 p q hokt (hl ▸ lf_of ⟨x, hx, isOcc_iff.2 hxk⟩) (hl ▸ lf_of ⟨y, hy, isOcc_iff.2 hyk⟩)).1 hpq)]
     simp only [arcJ, num2, look hy (isOcc_iff.2 hyk), nd_at hy, List.mem_singleton]
    ·simp only [List.mem_map] at h
     obtain ⟨_, ⟨_, ⟨q, hq, rfl⟩, rfl⟩, rfl⟩ := h
     obtain ⟨y, hy, hyk⟩ := fiT_leaf t 0 q hq
     rw [Nat.sub_zero, ← hl] at hy
     refine ⟨q, ⟨y, hy, isOcc_iff.2 hyk⟩, ?_⟩
     unfold arcsQ
     rw [List.mem_append, ← hl]
     left
     rw [if_pos ((bg_iff t 0 q hokt (hl ▸ lf_of ⟨y, hy, isOcc_iff.2 hyk⟩)).1 hq)]
     simp only [arcJ, look hy (isOcc_iff.2 hyk), nd_at hy, List.mem_singleton]
     rfl
   ·rintro ⟨q, ⟨y, hy, hyk⟩, h⟩
    unfold arcsQ at h
    rw [List.mem_append, List.mem_flatMap, ← hl, nd_at hy] at h
    rcases h with h | ⟨p, hp, h⟩
    ·split at h
     ·rename_i hb
      right
      simp only [List.mem_map]
      refine ⟨_, ⟨_, ⟨q, (bg_iff t 0 q hokt (hl ▸ lf_of ⟨y, hy, hyk⟩)).2 hb, rfl⟩, rfl⟩, ?_⟩
      simp only [List.mem_singleton] at h
      rw [h]
      simp only [arcJ, look hy hyk]
      rfl
     ·simp at h
    ·split at h
     ·rename_i hb
      left
      obtain ⟨x, hx, hxk⟩ := mem_plN.1 hp
      simp only [List.mem_map]
      refine ⟨_, ⟨(p, q), (fo_iff t 0 p q hokt (hl ▸ lf_of ⟨x, hx, hxk⟩) (hl ▸ lf_of ⟨y, hy, hyk⟩)).2 hb, rfl⟩, ?_⟩
      simp only [List.mem_singleton] at h
      rw [h]
      simp only [arcJ, num2, look hy hyk]
     ·simp at h
  rw [← here, ← ih]
  constructor
  ·rintro ((h | h) | h | h)
   ·exact .inl (.inl h)
   ·exact .inr (.inl h)
   ·exact .inl (.inr h)
   ·exact .inr (.inr h)
  ·rintro ((h | h) | h | h)
   ·exact .inl (.inl h)
   ·exact .inr (.inl h)
   ·exact .inl (.inr h)
   ·exact .inr (.inr h)

theorem arcC_lex (x y : Arc) : arcC x y = lexC cmpI (lexC symC cmpI) (x.fr, x.sy, x.to) (y.fr, y.sy, y.to) := rfl
theorem ordArc : OrdC arcC := by
 have h := ordLex ordI (ordLex ordSym ordI)
 refine ⟨fun x y => ?_, fun x y => ?_, fun x y z => ?_⟩
 ·rw [arcC_lex, h.eq0]
  cases x; cases y
  simp only [_root_.Prod.mk.injEq, Arc.mk.injEq]
 ·rw [arcC_lex, arcC_lex]; exact h.anti _ _
 ·rw [arcC_lex, arcC_lex, arcC_lex]; exact h.trans _ _ _

theorem arcs_law (sy : Nd → Sym) (ts : List RT) (hok : ∀ t ∈ ts, okT t = true) : compL (fun x y => arcC x y == 0) (sortC arcC (arcsP sy ts)) = (arcsR sy 0 ts).foldl (insC arcC) [] := by
 rw [fold_ins ordArc]
 obtain ⟨h1, h2⟩ := compL_strict ordArc (sortC_sorted ordArc (arcsP sy ts))
 obtain ⟨h3, h4⟩ := compL_strict ordArc (sortC_sorted ordArc (arcsR sy 0 ts))
 refine strict_eq ordArc h1 h3 fun z => ?_
 rw [h2, h4, (sortC_perm _ _).mem_iff, (sortC_perm _ _).mem_iff]
 exact mem_arcs sy (syL sy ts) z ts 0 hok (by simp)

def finR : Nat → List RT → List Nat
 | _, [] => []
 | ah, t :: ts => ((plN (flat t) (flat t).length).filter (enT t 0)).map (num (flat t) ah) ++ finR (ah + (lvs (flat t)).length) ts
theorem finR_snoc (t : RT) : ∀ (ts : List RT) (ah : Nat), finR ah (ts ++ [t]) = finR ah ts ++ ((plN (flat t) (flat t).length).filter (enT t 0)).map (num (flat t) (ah + (lvL ts).length))
 | [], ah => by simp [finR, lvL]
 | u :: ts, ah => by
  rw [List.cons_append, finR, finR, finR_snoc t ts, List.append_assoc, Nat.add_assoc]
  simp [lvL]
theorem fin_perm : ∀ (ts : List RT) (ah : Nat), (∀ t ∈ ts, okT t = true) → (laN ah ts).Perm (finR ah ts)
 | [], ah, _ => by simp [laN, finR]
 | t :: ts, ah, hok => by
  rw [laN, finR]
  refine List.Perm.append (List.Perm.map _ ?_) (fin_perm ts _ fun u hu => hok u (List.mem_cons_of_mem _ hu))
  refine (List.perm_ext_iff_of_nodup (la_nodup t 0) (((plN_pw _ _).imp fun h => Nat.ne_of_lt h).filter _)).2 fun q => ?_
  have hokt := hok t List.mem_cons_self
  rw [List.mem_filter, mem_plN]
  constructor
  ·intro h
   obtain ⟨y, hy, hyk⟩ := laT_leaf t 0 q h
   rw [Nat.sub_zero] at hy
   have hq := (⟨y, hy, isOcc_iff.2 hyk⟩ : ∃ x, (flat t)[q]? = some x ∧ isOcc x = true)
   exact ⟨hq, (en_iff t 0 q hokt (lf_of hq)).1 h⟩
  ·rintro ⟨hq, h⟩
   exact (en_iff t 0 q hokt (lf_of hq)).2 h
theorem num_lt {l : List Nd} {ah p q : Nat} (hp : p ∈ plN l l.length) (h : p < q) : num l ah p < num l ah q := by
 obtain ⟨x, hx, hk⟩ := mem_plN.1 hp
 have := rkN_lt hx hk h
 unfold num
 omega
theorem finR_ok : ∀ (ts : List RT) (ah : Nat), (finR ah ts).Pairwise (· < ·) ∧ ∀ q ∈ finR ah ts, ah < q ∧ q ≤ ah + (lvL ts).length
 | [], ah => by simp [finR]
 | t :: ts, ah => by
  obtain ⟨h1, h2⟩ := finR_ok ts (ah + (lvs (flat t)).length)
  have hb : ∀ q ∈ ((plN (flat t) (flat t).length).filter (enT t 0)).map (num (flat t) ah), ah < q ∧ q ≤ ah + (lvs (flat t)).length := by
   intro q hq
   obtain ⟨p, hp, rfl⟩ := List.mem_map.1 hq
   obtain ⟨x, hx, hk⟩ := mem_plN.1 (List.mem_filter.1 hp).1
   have h3 := rkN_lt hx hk (List.getElem?_eq_some_iff.1 hx).1
   rw [rkN_all] at h3
   unfold num
   omega
  have hl : (lvL (t :: ts)).length = (lvs (flat t)).length + (lvL ts).length := by simp [lvL]
  rw [finR]
  refine ⟨List.pairwise_append.2 ⟨?_, h1, ?_⟩, ?_⟩
  ·rw [List.pairwise_map]
   refine List.Pairwise.imp_of_mem ?_ ((plN_pw _ _).filter _)
   intro a b ha _ hab
   exact num_lt (List.mem_filter.1 ha).1 hab
  ·intro a ha b hb'
   have := hb a ha
   have := h2 b hb'
   omega
  ·intro q hq
   rcases List.mem_append.1 hq with hq | hq
   ·have := hb q hq; omega
   ·have := h2 q hq; omega
theorem sort_fin {l l' : List Int} (hp : l.Perm l') (hs : l'.Pairwise (· < ·)) : l.mergeSort (fun x y => decide (x ≤ y)) = l' := by
 have tr : ∀ a b c : Int, decide (a ≤ b) = true → decide (b ≤ c) = true → decide (a ≤ c) = true := fun a b c h1 h2 => by simp only [decide_eq_true_eq] at *; omega
 have to : ∀ a b : Int, (decide (a ≤ b) || decide (b ≤ a)) = true := fun a b => by simp only [Bool.or_eq_true, decide_eq_true_eq]; omega
 refine List.Perm.eq_of_pairwise (le := fun a b => decide (a ≤ b) = true) (fun a b _ _ h1 h2 => ?_) (List.pairwise_mergeSort tr to l) (hs.imp fun h => by simp only [decide_eq_true_eq]; omega) ((List.mergeSort_perm l _).trans hp)
 simp only [decide_eq_true_eq] at h1 h2
 omega
def toI (n : Nat) : Int := (n : Int)
def finsR (ts : List RT) : List Int := (if anyE ts then [0] else []) ++ (finR 0 ts).map toI
theorem fins_law (ts : List RT) (hok : ∀ t ∈ ts, okT t = true) : ((laN 0 ts).map toI ++ (if anyE ts then [0] else [])).mergeSort (fun x y => decide (x ≤ y)) = finsR ts := by
 refine sort_fin ?_ ?_
 ·unfold finsR
  exact List.perm_append_comm.trans (List.Perm.append_left _ ((fin_perm ts 0 hok).map toI))
 ·obtain ⟨h1, h2⟩ := finR_ok ts 0
  have hm : ((finR 0 ts).map toI).Pairwise (· < ·) := by
   rw [List.pairwise_map]
   exact h1.imp fun h => by unfold toI; omega
  unfold finsR
  split
  ·refine List.pairwise_cons.2 ⟨fun q hq => ?_, hm⟩
   obtain ⟨p, hp, rfl⟩ := List.mem_map.1 hq
   have := h2 p hp
   unfold toI
   omega
  ·exact hm
end Go.Proofs.YtdgocjbakjamaaaGreat
end

section
set_option linter.unusedSectionVars false
/- lists of texts, each once, rising. Plain Lean. -/



set_option linter.unusedSimpArgs false
set_option linter.unusedVariables false
namespace Go.Proofs.YtdgocjbakjamaaaGreat
open Go Go.Dm
variable [DMode]

abbrev Str (l : List ByteArray) : Prop := l.Pairwise fun a b => sLess a b = true
theorem strict_ext : ∀ {a b : List ByteArray}, Str a → Str b → (∀ x, x ∈ a ↔ x ∈ b) → a = b
 | [], [], _, _, _ => rfl
 | [], y :: b, _, _, h => by have := (h y).2 List.mem_cons_self; simp at this
 | x :: a, [], _, _, h => by have := (h x).1 List.mem_cons_self; simp at this
 | x :: a, y :: b, ha, hb, h => by
  obtain ⟨ha1, ha2⟩ := List.pairwise_cons.1 ha
  obtain ⟨hb1, hb2⟩ := List.pairwise_cons.1 hb
  have hxy : x = y := by
   rcases List.mem_cons.1 ((h x).1 List.mem_cons_self) with h1 | h1
   ·exact h1
   ·rcases List.mem_cons.1 ((h y).2 List.mem_cons_self) with h2 | h2
    ·exact h2.symm
    ·have := sLess_asym (hb1 x h1); rw [ha1 y h2] at this; simp at this
  subst hxy
  rw [strict_ext ha2 hb2 fun z => ?_]
  constructor
  ·intro hz
   rcases List.mem_cons.1 ((h z).1 (List.mem_cons_of_mem _ hz)) with h1 | h1
   ·subst h1; have := ha1 z hz; rw [sLess_irr] at this; simp at this
   ·exact h1
  ·intro hz
   rcases List.mem_cons.1 ((h z).2 (List.mem_cons_of_mem _ hz)) with h1 | h1
   ·subst h1; have := hb1 z hz; rw [sLess_irr] at this; simp at this
   ·exact h1

theorem bl_lt : ∀ a b : List UInt8, Op.bytesLess a b = true ↔ a < b
 | [], [] => by simp [Op.bytesLess]
 | [], _ :: _ => by simp [Op.bytesLess]
 | _ :: _, [] => by simp [Op.bytesLess]
 | x :: a, y :: b => by
  rw [List.cons_lt_cons_iff]
  simp only [Op.bytesLess, Bool.or_eq_true, Bool.and_eq_true, decide_eq_true_eq, beq_iff_eq, bl_lt a b]
theorem ssort_mem (l : List ByteArray) (x : ByteArray) : x ∈ ssort l ↔ x ∈ l := by
 unfold ssort
 simp only [List.mem_map, (List.mergeSort_perm _ _).mem_iff]
 constructor
 ·rintro ⟨y, ⟨z, hz, rfl⟩, rfl⟩; exact hz
 ·intro h; exact ⟨_, ⟨x, h, rfl⟩, rfl⟩
theorem ssort_sorted (l : List ByteArray) : (ssort l).Pairwise fun a b => sLess b a = false := by
 unfold ssort
 rw [List.pairwise_map]
 have h := List.pairwise_mergeSort (le := fun x y : List UInt8 => decide (x ≤ y)) (by
  intro a b c h1 h2
  simp only [decide_eq_true_eq] at *
  exact List.le_trans h1 h2) (by
  intro a b
  simp only [Bool.or_eq_true, decide_eq_true_eq]
  exact List.le_total a b) (l.map fun s => s.data.toList)
 refine h.imp ?_
 intro a b hab
 simp only [decide_eq_true_eq] at hab
 have : ¬ Op.bytesLess b a = true := fun h => by
  rw [bl_lt] at h
  exact (List.not_lt.2 hab) h
 simpa [sLess] using this
def eqT (a b : ByteArray) : Bool := a == b
theorem compGoS_ok : ∀ {l : List ByteArray} {p : ByteArray}, (p :: l).Pairwise (fun a b => sLess b a = false) → Str (compGo eqT p l) ∧ (∀ x ∈ compGo eqT p l, sLess p x = true) ∧ ∀ x, (x = p ∨ x ∈ compGo eqT p l) ↔ (x = p ∨ x ∈ l)
 | [], p, _ => ⟨.nil, by simp [compGo], by simp [compGo]⟩
 | y :: l, p, h => by
  obtain ⟨h1, h2⟩ := List.pairwise_cons.1 h
  obtain ⟨g1, g2, g3⟩ := compGoS_ok h2
  unfold compGo
  by_cases hyp : y = p
  ·subst hyp
   rw [if_pos (by simp [eqT])]
   refine ⟨g1, g2, fun x => ?_⟩
   rw [g3 x]
   simp only [List.mem_cons]
   constructor
   ·rintro (h | h)
    ·exact .inl h
    ·exact .inr (.inr h)
   ·rintro (h | h | h)
    ·exact .inl h
    ·exact .inl h
    ·exact .inr h
  ·rw [if_neg (by simp [eqT, hyp])]
   have hpy : sLess p y = true := by
    cases hc : sLess p y
    ·exact absurd (sLess_tri hc (h1 y List.mem_cons_self)).symm hyp
    ·rfl
   refine ⟨List.pairwise_cons.2 ⟨g2, g1⟩, fun x hx => ?_, fun x => ?_⟩
   ·rcases List.mem_cons.1 hx with rfl | hx
    ·exact hpy
    ·exact sLess_trans hpy (g2 x hx)
   ·simp only [List.mem_cons]
    rw [g3 x]
def uniqS (l : List ByteArray) : List ByteArray := compL eqT (ssort l)
theorem uniqS_ok (l : List ByteArray) : Str (uniqS l) ∧ ∀ x, x ∈ uniqS l ↔ x ∈ l := by
 unfold uniqS
 have h := ssort_sorted l
 have hm := ssort_mem l
 cases hs : ssort l with
 | nil =>
  rw [hs] at hm
  exact ⟨.nil, by simpa [compL] using hm⟩
 | cons p t =>
  rw [hs] at h hm
  obtain ⟨g1, g2, g3⟩ := compGoS_ok h
  refine ⟨List.pairwise_cons.2 ⟨g2, g1⟩, fun x => ?_⟩
  simp only [compL, List.mem_cons]
  rw [g3 x, ← hm x]
  simp
theorem compGoS_len {α : Type} (e : α → α → Bool) : ∀ (l : List α) (p : α), (compGo e p l).length ≤ l.length
 | [], _ => by simp [compGo]
 | y :: l, p => by
  unfold compGo
  split
  ·have := compGoS_len e l y; simp; omega
  ·have := compGoS_len e l y; simp; omega
theorem uniqS_len (l : List ByteArray) : (uniqS l).length ≤ l.length := by
 unfold uniqS
 have h := ssort_len l
 cases hs : ssort l with
 | nil => simp [compL]
 | cons p t =>
  rw [hs] at h
  have := compGoS_len eqT t p
  simp only [compL, List.length_cons] at h ⊢
  omega
theorem uniq_of {l a : List ByteArray} (ha : Str a) (h : ∀ x, x ∈ a ↔ x ∈ l) : a = uniqS l := by
 obtain ⟨g1, g2⟩ := uniqS_ok l
 exact strict_ext ha g1 fun x => by rw [h x, g2 x]

end Go.Proofs.YtdgocjbakjamaaaGreat
end

section
set_option linter.unusedSectionVars false
/- orders of edges, and where an edge stands -/



set_option linter.unusedSimpArgs false
set_option linter.unusedVariables false
namespace Go.Proofs.YtdgocjbakjamaaaGreat
open Go Go.Dm
variable [DMode]
attribute [local irreducible] DW callP callS
set_option maxRecDepth 100000

end Go.Proofs.YtdgocjbakjamaaaGreat
end

section
set_option linter.unusedSectionVars false
/- The data machine, second make, part Sc: scopes through which the run goes without a goto. -/


set_option linter.unusedSimpArgs false
set_option linter.unusedVariables false
namespace Go

section
variable {F : Fence} {n : Nat} {P : Program} {Q : Exit → Act → World → Prop} {a : Act} {w : World}
end
end Go
namespace Go.Dm
variable [DMode]
def Dscope (Q : Exit → DS → Prop) : Exit → DS → Prop
 | .goto _, _ => False
 | e, s => Q e s
attribute [simp] Dscope
end Go.Dm
end

section
set_option linter.unusedSectionVars false
/- ways: joined, first, Spell, SameTexts -/



set_option linter.unusedSimpArgs false
set_option linter.unusedVariables false
namespace Go.Proofs.YtdgocjbakjamaaaGreat
open Go Go.Dm
variable [DMode]
attribute [local irreducible] DW callP callS
set_option maxRecDepth 100000

end Go.Proofs.YtdgocjbakjamaaaGreat
end

section
set_option linter.unusedSectionVars false
/- graphs: rising, named, ways by definition -/


set_option linter.unusedSimpArgs false
set_option linter.unusedVariables false
namespace Go.Proofs.YtdgocjbakjamaaaGreat
open Go Go.Dm
variable [DMode]
attribute [local irreducible] DW callP callS
set_option maxRecDepth 100000

end Go.Proofs.YtdgocjbakjamaaaGreat
end

section
set_option linter.unusedSectionVars false
/- graphs: named, form -/

set_option linter.unusedSimpArgs false
set_option linter.unusedVariables false
namespace Go.Proofs.YtdgocjbakjamaaaGreat
open Go Go.Dm
variable [DMode]
attribute [local irreducible] DW callP callS
set_option maxRecDepth 100000

end Go.Proofs.YtdgocjbakjamaaaGreat
end

section
set_option linter.unusedSectionVars false
/- graphs: among, form -/

set_option linter.unusedSimpArgs false
set_option linter.unusedVariables false
namespace Go.Proofs.YtdgocjbakjamaaaGreat
open Go Go.Dm
variable [DMode]
attribute [local irreducible] DW callP callS
set_option maxRecDepth 100000

def strsD (l : List ByteArray) : List DVal := l.map DVal.str
theorem strsD_cons (x : ByteArray) (l : List ByteArray) : strsD (x :: l) = .str x :: strsD l := rfl
theorem strsD_len (l : List ByteArray) : (strsD l).length = l.length := by simp [strsD]
theorem lookS_none : ∀ {l : List ByteArray} {s : ByteArray}, ¬ s ∈ l → lookI (strsD l) (.str s) = none
 | [], _, _ => rfl
 | x :: l, s, h => by
  have h1 : (s == x) = false := by simp; intro e; exact h (by simp [e])
  have h2 := lookS_none (l := l) (s := s) fun hm => h (List.mem_cons_of_mem _ hm)
  simp [strsD_cons, lookI, cellsK, eqCs, eqC, h1, h2]
theorem lookS_some : ∀ {l : List ByteArray} {s : ByteArray}, s ∈ l → ∃ j, lookI (strsD l) (.str s) = some j ∧ j < l.length
 | [], _, h => by simp at h
 | x :: l, s, h => by
  by_cases h1 : s = x
  ·subst h1; exact ⟨0, by simp [strsD_cons, lookI, cellsK, eqCs, eqC], by simp⟩
  ·obtain ⟨j, h2, h3⟩ := lookS_some (l := l) (s := s) (by simpa [h1] using h)
   have h1b : (s == x) = false := by simpa using h1
   exact ⟨j + 1, by simp [strsD_cons, lookI, cellsK, eqCs, eqC, h1b, h2], by simp; omega⟩
theorem keyStrs (l : List ByteArray) : (strsD l).all (keyOK Tryz.prog 9) = true := by
 induction l with
 | nil => rfl
 | cons p l ih => rw [strsD_cons, List.all_cons, ih]; simp
@[simp] theorem mxL_strs (l : List ByteArray) : mxL (strsD l) = 0 := by
 induction l with
 | nil => rfl
 | cons a l ih => rw [strsD_cons]; simp [mxL, mx, ih]
def oneUp (n : Nat) : List DVal := (List.range n).map fun i : Nat => DVal.int .i64 ((i : Int) + 1)
@[simp] theorem mxL_oneUp (n : Nat) : mxL (oneUp n) = 0 := by
 unfold oneUp
 induction List.range n with
 | nil => rfl
 | cons a l ih => simp [mxL, mx, ih]
end Go.Proofs.YtdgocjbakjamaaaGreat
end

section
set_option linter.unusedSectionVars false
/- grammars: heads, names, labels, what is missing. Plain Lean. -/






set_option linter.unusedSimpArgs false
set_option linter.unusedVariables false
namespace Go.Proofs.YtdgocjbakjamaaaGreat
open Go Go.Dm
variable [DMode]

def hStep (out : List ByteArray) (s : ByteArray) : List ByteArray := if s ∈ out then out else out ++ [s]
def headsL (g : List Rul) : List ByteArray := (g.map (·.h)).foldl hStep []
theorem hStep_mem {out : List ByteArray} {s x : ByteArray} : x ∈ hStep out s ↔ x ∈ out ∨ x = s := by
 unfold hStep
 split
 ·rename_i h; exact ⟨.inl, fun hh => by rcases hh with hh | rfl; exact hh; exact h⟩
 ·simp
theorem hFold_mem : ∀ (l out : List ByteArray) (x : ByteArray), x ∈ l.foldl hStep out ↔ x ∈ out ∨ x ∈ l
 | [], out, x => by simp
 | s :: l, out, x => by rw [List.foldl_cons, hFold_mem l, hStep_mem]; simp [or_assoc]
theorem hFold_nodup : ∀ (l out : List ByteArray), out.Nodup → (l.foldl hStep out).Nodup
 | [], out, h => h
 | s :: l, out, h => by
  rw [List.foldl_cons]
  refine hFold_nodup l _ ?_
  unfold hStep
  split
  ·exact h
  ·rename_i hs
   exact List.nodup_append.2 ⟨h, by simp, by rintro a ha b hb rfl; simp at hb; subst hb; exact hs ha⟩
theorem hFold_len : ∀ (l out : List ByteArray), (l.foldl hStep out).length ≤ out.length + l.length
 | [], out => by simp
 | s :: l, out => by
  rw [List.foldl_cons]
  have := hFold_len l (hStep out s)
  have : (hStep out s).length ≤ out.length + 1 := by unfold hStep; split <;> simp
  simp
  omega
theorem headsL_mem {g : List Rul} {x : ByteArray} : x ∈ headsL g ↔ ∃ r ∈ g, r.h = x := by
 unfold headsL; rw [hFold_mem]; simp
theorem headsL_nodup (g : List Rul) : (headsL g).Nodup := hFold_nodup _ _ (by simp)
theorem headsL_len (g : List Rul) : (headsL g).length ≤ g.length := by have := hFold_len (g.map (·.h)) []; unfold headsL; simpa using this
theorem headsL_take {g : List Rul} {i : Nat} {r : Rul} (h : g[i]? = some r) : headsL (g.take (i + 1)) = hStep (headsL (g.take i)) r.h := by
 unfold headsL
 rw [List.take_add_one, h, List.map_append, List.foldl_append]
 rfl

def namesN (k : Int) (l : List Nd) : List ByteArray := (l.filter fun x => decide (x.k = k)).map (·.s)
def namesK (k : Int) (g : List Rul) : List ByteArray := g.flatMap fun r => namesN k r.b
theorem namesN_take {k : Int} {l : List Nd} {i : Nat} {x : Nd} (h : l[i]? = some x) : namesN k (l.take (i + 1)) = namesN k (l.take i) ++ (if x.k = k then [x.s] else []) := by
 unfold namesN
 rw [List.take_add_one, h, List.filter_append, List.map_append]
 by_cases hx : x.k = k <;> simp [hx]
theorem namesK_take {k : Int} {g : List Rul} {i : Nat} {r : Rul} (h : g[i]? = some r) : namesK k (g.take (i + 1)) = namesK k (g.take i) ++ namesN k r.b := by
 unfold namesK
 rw [List.take_add_one, h, List.flatMap_append]
 simp
theorem namesN_len (k : Int) (l : List Nd) : (namesN k l).length ≤ l.length := by
 unfold namesN; rw [List.length_map]; exact List.length_filter_le _ _

def ixS (l : List ByteArray) (s : ByteArray) : Nat := l.findIdx fun x => s == x
theorem ixS_lt {l : List ByteArray} {s : ByteArray} (h : s ∈ l) : ixS l s < l.length := List.findIdx_lt_length_of_exists ⟨s, h, by simp⟩
theorem lookS_ix : ∀ {l : List ByteArray} {s : ByteArray}, s ∈ l → lookI (strsD l) (.str s) = some (ixS l s)
 | [], _, h => by simp at h
 | x :: l, s, h => by
  unfold ixS
  rw [List.findIdx_cons]
  by_cases h1 : s = x
  ·subst h1; simp [strsD_cons, lookI, cellsK, eqCs, eqC]
  ·have h2 := lookS_ix (l := l) (s := s) (by simpa [h1] using h)
   have h1b : (s == x) = false := by simpa using h1
   simp [strsD_cons, lookI, cellsK, eqCs, eqC, h1b, h2, ixS]
structure CM where
 K : List ByteArray
 V : List Int
def cStep (m : CM) (s : ByteArray) : CM := if s ∈ m.K then ⟨m.K, m.V.set (ixS m.K s) (IntKind.i64.wrap (m.V.getD (ixS m.K s) 0 + 1))⟩ else ⟨m.K ++ [s], m.V ++ [1]⟩
def cntL (es : List ByteArray) : CM := es.foldl cStep ⟨[], []⟩
theorem cntL_snoc (es : List ByteArray) (s : ByteArray) : cntL (es ++ [s]) = cStep (cntL es) s := by unfold cntL; rw [List.foldl_append]; rfl
structure CMok (m : CM) (es : List ByteArray) : Prop where
 len : m.K.length = m.V.length
 mem : ∀ s, s ∈ m.K ↔ s ∈ es
 nd : m.K.Nodup
 le : m.K.length ≤ es.length
theorem CMok.step {m : CM} {es : List ByteArray} (h : CMok m es) (s : ByteArray) : CMok (cStep m s) (es ++ [s]) := by
 unfold cStep
 split
 ·rename_i hs
  refine ⟨by simp [h.len], fun x => ?_, h.nd, by have := h.le; simp; omega⟩
  rw [h.mem x, List.mem_append]
  exact ⟨.inl, fun hh => by rcases hh with hh | hh; exact hh; simp at hh; subst hh; exact (h.mem x).1 hs⟩
 ·rename_i hs
  refine ⟨by simp [h.len], fun x => by simp [h.mem x], ?_, by have := h.le; simp; omega⟩
  exact List.nodup_append.2 ⟨h.nd, by simp, by rintro a ha b hb rfl; simp at hb; subst hb; exact hs ha⟩
theorem cnt_ok (es : List ByteArray) : CMok (cntL es) es := by
 have key : ∀ (l : List ByteArray) (m : CM) (es : List ByteArray), CMok m es → CMok (l.foldl cStep m) (es ++ l) := by
  intro l
  induction l with
  | nil => intro m es h; simpa using h
  | cons s l ih =>
   intro m es h
   have := ih (cStep m s) (es ++ [s]) (h.step s)
   simpa using this
 have := key es ⟨[], []⟩ [] ⟨rfl, by simp, by simp, by simp⟩
 simpa [cntL] using this

def labelsL' (g : List Rul) : List ByteArray := uniqS (namesK 3 g)
def missL (g : List Rul) : List ByteArray := (uniqS (namesK 2 g)).filter fun s => !decide (s ∈ headsL g)
theorem miss_len {g : List Rul} {K : List ByteArray} (hn : K.Nodup) (hm : ∀ s, s ∈ K ↔ s ∈ namesK 2 g ∧ ¬ s ∈ headsL g) : K.length = (missL g).length := by
 refine List.Perm.length_eq ((List.perm_ext_iff_of_nodup hn ?_).2 fun s => ?_)
 ·unfold missL
  exact List.Pairwise.filter _ ((uniqS_ok _).1.imp fun {a b} h e => by subst e; rw [sLess_irr] at h; simp at h)
 ·unfold missL
  rw [hm s, List.mem_filter, (uniqS_ok _).2]
  simp

abbrev GT := List (ByteArray × RT)
def mkG (gt : GT) : List Rul := gt.map fun p => ⟨p.1, flat p.2⟩
def OkG (gt : GT) : Prop := ∀ p ∈ gt, txtOK 2 p.1 = true ∧ okT p.2 = true
def treesB (g : List Rul) : Bool := g.all fun r => txtOK 2 r.h && wholeB r.b
theorem trees_gt : ∀ {g : List Rul}, treesB g = true → ∃ gt, g = mkG gt ∧ OkG gt
 | [], _ => ⟨[], rfl, by intro p hp; simp at hp⟩
 | r :: g, h => by
  unfold treesB at h
  rw [List.all_cons, Bool.and_eq_true, Bool.and_eq_true] at h
  obtain ⟨gt, rfl, hg⟩ := trees_gt (g := g) h.2
  obtain ⟨t, ht, hb⟩ := whole_tree h.1.2
  refine ⟨(r.h, t) :: gt, by cases r; simp only at hb; subst hb; rfl, fun p hp => ?_⟩
  rcases List.mem_cons.1 hp with rfl | hp
  ·exact ⟨h.1.1, ht⟩
  ·exact hg p hp
theorem gt_trees {gt : GT} (h : OkG gt) : treesB (mkG gt) = true := by
 unfold treesB mkG
 rw [List.all_map, List.all_eq_true]
 intro p hp
 obtain ⟨h1, h2⟩ := h p hp
 simp [h1, tree_whole h2]
def occG (g : List Rul) : Nat := (g.map fun r => occN r.b).sum
def deepG (gt : GT) : Bool := gt.any fun p => decide (16 < htT p.2)
def ruleT (p : ByteArray × RT) : ByteArray := p.1 ++ ⟨#[32, 61, 32]⟩ ++ txtT p.2 ++ ⟨#[32, 59, 10]⟩
def textG (gt : GT) : ByteArray := gt.foldl (fun s p => s ++ ruleT p) ⟨#[]⟩
theorem textG_take {gt : GT} {i : Nat} {p : ByteArray × RT} (h : gt[i]? = some p) : textG (gt.take (i + 1)) = textG (gt.take i) ++ ruleT p := by
 unfold textG
 rw [List.take_add_one, h, List.foldl_append]
 rfl
theorem textG_take_le (gt : GT) (i : Nat) : (textG (gt.take i)).size ≤ (textG gt).size := by
 have key : ∀ (l : GT) (s : ByteArray), s.size ≤ (l.foldl (fun s p => s ++ ruleT p) s).size := by
  intro l
  induction l with
  | nil => intro s; simp
  | cons p l ih => intro s; rw [List.foldl_cons]; have := ih (s ++ ruleT p); rw [ByteArray.size_append] at this; omega
 unfold textG
 conv => rhs; rw [← List.take_append_drop i gt, List.foldl_append]
 exact key _ _
def codeT (gt : GT) : Int :=
 if 16 < (headsL (mkG gt)).length + (missL (mkG gt)).length then 181
 else if 16 < (labelsL' (mkG gt)).length then 182
 else if 64 < occG (mkG gt) then 183
 else if deepG gt then 171
 else if 0 < (missL (mkG gt)).length then 184
 else if 2048 < (textG gt).size then 174
 else 0
mutual
theorem txt_geT : ∀ (t : RT), okT t = true → (flat t).length ≤ (txtT t).size
 | .mk x ks, h => by
  obtain ⟨h1, h2, h3⟩ := okT_mk h
  rw [txtT_mk, flat_mk, List.length_cons]
  by_cases k1 : x.k = 1
  ·rw [if_pos k1]
   have : x.n = 0 := by
    unfold mayN at h1
    rw [if_pos k1] at h1
    simp only [Bool.and_eq_true, decide_eq_true_eq] at h1
    exact h1.2
   have hks : ks = [] := List.eq_nil_of_length_eq_zero (by omega)
   subst hks
   rw [flatL]
   decide
  ·rw [if_neg k1]
   by_cases k2 : x.k = 2 ∨ x.k = 3
   ·rw [if_pos k2]
    have := mayN_leaf h1 k2
    have hn : x.n = 0 := by
     unfold mayN at h1
     rcases k2 with k2 | k2
     ·rw [if_neg (by omega), if_pos k2] at h1; simp only [Bool.and_eq_true, decide_eq_true_eq] at h1; exact h1.1
     ·rw [if_neg (by omega), if_neg (by omega), if_pos k2] at h1; simp only [Bool.and_eq_true, decide_eq_true_eq] at h1; exact h1.1
    have hks : ks = [] := List.eq_nil_of_length_eq_zero (by omega)
    subst hks
    rw [flatL]
    simp
    omega
   ·rw [if_neg k2, ByteArray.size_append]
    have hj := txt_geL x.k ks h3
    have hn := mayN_many h1 k1 k2
    rcases mayN_kind h1 with k | k | k | k | k | k | k | k
    ·exact absurd k k1
    ·exact absurd (.inl k) k2
    ·exact absurd (.inr k) k2
    ·have hb : 1 ≤ (btw x.k).size := by unfold btw; rw [k]; decide
     have h5 : 2 ≤ x.n := by unfold mayN at h1; simp [k] at h1; exact h1.2
     have := join_ge (btw x.k) (txtL x.k ks) (by rw [txtL_map, List.length_map]; omega)
     rw [txtL_map, List.length_map, ← txtL_map] at this
     have h6 : 1 * (ks.length - 1) ≤ (btw x.k).size * (ks.length - 1) := Nat.mul_le_mul_right _ hb
     omega
    ·have hb : 1 ≤ (btw x.k).size := by unfold btw; rw [k]; decide
     have h5 : 2 ≤ x.n := by unfold mayN at h1; simp [k] at h1; exact h1.2
     have := join_ge (btw x.k) (txtL x.k ks) (by rw [txtL_map, List.length_map]; omega)
     rw [txtL_map, List.length_map, ← txtL_map] at this
     have h6 : 1 * (ks.length - 1) ≤ (btw x.k).size * (ks.length - 1) := Nat.mul_le_mul_right _ hb
     omega
    all_goals
     have hs : (sgn x.k).size = 1 := by unfold sgn; rw [k]; decide
     have := join_ge (btw x.k) (txtL x.k ks) (by rw [txtL_map, List.length_map]; omega)
     omega
theorem txt_geL : ∀ (pk : Int) (ts : List RT), okL ts = true → (flatL ts).length ≤ ((txtL pk ts).map (·.size)).sum
 | pk, [], _ => by simp [flatL]
 | pk, t :: ts, h => by
  obtain ⟨h1, h2⟩ := okL_cons h
  have a := txt_geT t h1
  have b := txt_geL pk ts h2
  have c := (parT_size pk t.x.k (txtT t)).1
  rw [txtL_cons, flatL_cons, List.map_cons, List.sum_cons, List.length_append]
  omega
theorem join_ge (sep : ByteArray) : ∀ (xs : List ByteArray), 1 ≤ xs.length → (xs.map (·.size)).sum + sep.size * (xs.length - 1) ≤ (joinB xs sep).size
 | [], h => by simp at h
 | x :: r, _ => by
  have key : ∀ (r : List ByteArray) (x : ByteArray), x.size + (r.map (·.size)).sum + sep.size * r.length ≤ (r.foldl (joinF sep) x).size := by
   intro r
   induction r with
   | nil => intro x; simp
   | cons y r ih =>
    intro x
    have := ih (joinF sep x y)
    rw [joinF_size] at this
    rw [List.foldl_cons, List.map_cons, List.sum_cons, List.length_cons, Nat.mul_add]
    omega
  have := key r x
  show _ ≤ (r.foldl (joinF sep) x).size
  simp only [List.map_cons, List.sum_cons, List.length_cons, Nat.add_sub_cancel]
  omega
end
theorem ruleT_le {gt : GT} {p : ByteArray × RT} (h : p ∈ gt) : (txtT p.2).size ≤ (textG gt).size := by
 obtain ⟨i, hi, rfl⟩ := List.getElem_of_mem h
 have h1 := textG_take (List.getElem?_eq_getElem hi)
 have h2 := textG_take_le gt (i + 1)
 rw [h1, ByteArray.size_append] at h2
 unfold ruleT at h2
 simp only [ByteArray.size_append] at h2
 omega
end Go.Proofs.YtdgocjbakjamaaaGreat
end

section
set_option linter.unusedSectionVars false
/- graphs: form by definition -/

set_option linter.unusedSimpArgs false
set_option linter.unusedVariables false
namespace Go.Proofs.YtdgocjbakjamaaaGreat
open Go Go.Dm
variable [DMode]
attribute [local irreducible] DW callP callS
set_option maxRecDepth 100000

end Go.Proofs.YtdgocjbakjamaaaGreat
end

section
set_option linter.unusedSectionVars false
/- graphs by definition: texts in order, lone nodes, the text -/


set_option linter.unusedSimpArgs false
set_option linter.unusedVariables false
namespace Go.Proofs.YtdgocjbakjamaaaGreat
open Go Go.Dm
variable [DMode]
attribute [local irreducible] DW callP callS
set_option maxRecDepth 100000

end Go.Proofs.YtdgocjbakjamaaaGreat
end

section
set_option linter.unusedSectionVars false
/- graphs by definition: labels, lone nodes, the text, Check -/

set_option linter.unusedSimpArgs false
set_option linter.unusedVariables false
namespace Go.Proofs.YtdgocjbakjamaaaGreat
open Go Go.Dm
variable [DMode]
attribute [local irreducible] DW callP callS
set_option maxRecDepth 100000

structure SmallG (g : Edges) : Prop where
 n1 : g.nodes.length ≤ 32
 n2 : ∀ n ∈ g.nodes, n.size ≤ 16
 e1 : g.edges.length ≤ 256
 e2 : ∀ e ∈ g.edges, e.fr.size ≤ 16 ∧ e.lb.size ≤ 16 ∧ e.to.size ≤ 16
end Go.Proofs.YtdgocjbakjamaaaGreat
end

section
set_option linter.unusedSectionVars false
/- graphs by definition: Check, Way -/

set_option linter.unusedSimpArgs false
set_option linter.unusedVariables false
namespace Go.Proofs.YtdgocjbakjamaaaGreat
open Go Go.Dm
variable [DMode]
attribute [local irreducible] DW callP callS
set_option maxRecDepth 100000

end Go.Proofs.YtdgocjbakjamaaaGreat
end

section
set_option linter.unusedSectionVars false
/- the program's labels of a graph -/


set_option linter.unusedSimpArgs false
set_option linter.unusedVariables false
namespace Go.Proofs.YtdgocjbakjamaaaGreat
open Go Go.Dm
variable [DMode]
attribute [local irreducible] DW callP callS
set_option maxRecDepth 100000

def anWB12132 : Ann := ⟨[], []⟩
def anWB12132b2 : Ann := ⟨[5], []⟩
theorem cloneS_pure (l : List ByteArray) : DPure Tryz.prog 132 [dStrs l] (dStrs l) := by
 match l with
 | [] =>
  refine DPure_sl [] ?_ ?_
  ·refine DPure_introF [7] (fn := Tryz.f132) Tryz.func132 rfl Tryz.call132 (by simp [Tryz.ntmps132]) (by simp [mx, mxR]) ?_
   intro hwf B hnt
   simp only [Tryz.ntmps132] at hnt
   have hA := an_is anWB12132 Tryz.mixed (aj2 @anWB12132.eq_1 Tryz.results132)
   simp only [argS, List.nil_append, dStrs, List.map_cons]
   exact go0 aj0 aj0 aj0
  ·refine DPure_introF [7, 5] (fn := Tryz.f132) Tryz.func132 rfl Tryz.call132 (by simp [Tryz.ntmps132]) (by simp [mx, mxR]) ?_
   intro hwf B hnt
   simp only [Tryz.ntmps132] at hnt
   have hA := an_is anWB12132b2 Tryz.mixed (aj2 @anWB12132b2.eq_1 Tryz.results132)
   simp only [argS, List.nil_append, dStrs, List.map_cons]
   exact go0 aj0 aj0 aj0
 | s :: l =>
  refine DPure_introF [7, 5] (fn := Tryz.f132) Tryz.func132 rfl Tryz.call132 (by simp [Tryz.ntmps132]) (by simp [mx, mxR]) ?_
  intro hwf B hnt
  simp only [Tryz.ntmps132] at hnt
  have hA := an_is anWB12132b2 Tryz.mixed (aj2 @anWB12132b2.eq_1 Tryz.results132)
  have hsz : (s :: l).length * 16 ≤ 150000000000000 := by have := hwf.1; simp only [wfD, List.length_map] at this; exact this.1
  clear hwf
  have z2 : (s :: l).length ≤ 9223372036854775807 := by omega
  simp only [List.length_cons] at hsz z2
  simp only [argS, List.nil_append, dStrs, List.map_cons]
  exact go0 aj0 aj0 (aj2 hsz z2)

end Go.Proofs.YtdgocjbakjamaaaGreat
end

section
set_option linter.unusedSectionVars false
/- the program's labels and lone nodes of a graph -/

set_option linter.unusedSimpArgs false
set_option linter.unusedVariables false
namespace Go.Proofs.YtdgocjbakjamaaaGreat
open Go Go.Dm
variable [DMode]
attribute [local irreducible] DW callP callS
set_option maxRecDepth 100000

def intsV (l : List Int) : List DVal := l.map fun n => .int .i64 n
theorem intsV_set (l : List Int) (j : Nat) (n : Int) : (intsV l).set j (.int .i64 n) = intsV (l.set j n) := by simp [intsV, List.map_set]
theorem intsV_app (l : List Int) (n : Int) : intsV l ++ [.int .i64 n] = intsV (l ++ [n]) := by simp [intsV]
@[simp] theorem mxL_ints (l : List Int) : mxL (intsV l) = 0 := by
 unfold intsV
 induction l with
 | nil => rfl
 | cons a l ih => simp [mxL, mx, ih]
structure Cnt (K : List ByteArray) (V : List Int) (es : List ByteArray) : Prop where
 len : K.length = V.length
 mem : ∀ s, s ∈ K ↔ s ∈ es
 val : ∀ v ∈ V, 1 ≤ v ∧ v ≤ es.length
theorem strsD_app (l : List ByteArray) (s : ByteArray) : strsD l ++ [.str s] = strsD (l ++ [s]) := by simp [strsD]
theorem Cnt.step {K : List ByteArray} {V : List Int} {es : List ByteArray} (h : Cnt K V es) (s : ByteArray) :
  (∃ j d, lookI (strsD K) (.str s) = some j ∧ (intsV V)[j]? = some (.int .i64 d) ∧ 1 ≤ d ∧ d ≤ es.length ∧ Cnt K (V.set j (d + 1)) (es ++ [s])) ∨
  (lookI (strsD K) (.str s) = none ∧ Cnt (K ++ [s]) (V ++ [1]) (es ++ [s])) := by
 by_cases hs : s ∈ K
 ·obtain ⟨j, h1, h2⟩ := lookS_some hs
  have h3 : j < V.length := by rw [← h.len]; exact h2
  have hv := h.val V[j] (List.getElem_mem h3)
  refine .inl ⟨j, V[j], h1, by simp [intsV, h3], hv.1, hv.2, by simp [h.len], fun x => ?_, fun v hv' => ?_⟩
  ·rw [h.mem x, List.mem_append]
   constructor
   ·exact .inl
   ·rintro (hx | hx)
    ·exact hx
    ·simp only [List.mem_singleton] at hx
     subst hx
     exact (h.mem x).1 hs
  ·rcases List.mem_or_eq_of_mem_set hv' with h4 | rfl
   ·have := h.val v h4; simp; omega
   ·simp; omega
 ·refine .inr ⟨lookS_none hs, by simp [h.len], fun x => by simp [h.mem x], fun v hv => ?_⟩
  rcases List.mem_append.1 hv with h4 | h4
  ·have := h.val v h4; simp; omega
  ·simp only [List.mem_singleton] at h4
   subst h4
   simp
   omega

end Go.Proofs.YtdgocjbakjamaaaGreat
end

section
set_option linter.unusedSectionVars false
/- The data machine, second make, part Bo: an own row is lent to a call that only reads. -/

set_option linter.unusedSimpArgs false
set_option linter.unusedVariables false
namespace Go.Dm
variable [DMode]

def simpD : DVal → Bool
 | .bool _ => true
 | .int _ _ => true
 | .str _ => true
 | .nilp => true
 | .nilsl => true
 | .any => true
 | _ => false
theorem rd_simp {d : DVal} (hd : simpD d = true) {cur cur' : Cur} {M M' : List Nat} {h h' : Array Obj} {v : Value} (hr : rd cur M h d v) : rd cur' M' h' d v := by
 cases d <;> simp only [simpD, Bool.false_eq_true] at hd <;> simp only [rd] at hr ⊢ <;> exact hr
theorem rdV_simp : ∀ {ds : List DVal} (hd : ds.all simpD = true) {cur cur' : Cur} {M M' : List Nat} {h h' : Array Obj} {vs : List Value} (_ : rdV cur M h ds vs), rdV cur' M' h' ds vs
 | [], _, _, _, _, _, _, _, vs, hr => by simpa only [rdV] using hr
 | d :: ds, hd, _, _, _, _, _, _, vs, hr => by
  rw [List.all_cons, Bool.and_eq_true] at hd
  simp only [rdV] at hr ⊢
  obtain ⟨v, r, rfl, h1, h2⟩ := hr
  exact ⟨v, r, rfl, rd_simp hd.1 h1, rdV_simp hd.2 h2⟩
def simpT : DVal → Bool
 | .tup ds => ds.all simpD
 | .agg ds => ds.all simpD
 | d => simpD d
theorem rd_simpT {d : DVal} (hd : simpT d = true) {cur cur' : Cur} {M M' : List Nat} {h h' : Array Obj} {v : Value} (hr : rd cur M h d v) : rd cur' M' h' d v := by
 cases d
 case tup ds =>
  simp only [simpT] at hd
  simp only [rd] at hr ⊢
  obtain ⟨us, rfl, h1⟩ := hr
  exact ⟨us, rfl, rdV_simp hd h1⟩
 case agg ds =>
  simp only [simpT] at hd
  simp only [rd] at hr ⊢
  obtain ⟨us, rfl, h1⟩ := hr
  exact ⟨us, rfl, rdV_simp hd h1⟩
 all_goals exact rd_simp (by simpa only [simpT] using hd) hr

theorem DSpec_lend {P : Program} {f : FuncId} {k bs : Nat} {et : TypeId} {es : List (List DVal)} {rest : List DVal} {d : DVal} (hd : simpT d = true) (hp : DPure P f (.sl k bs es :: rest) d) :
  DSpec P (.func f) (.osl 0 0 :: rest) [⟨0, 0, .row et k bs es⟩] d [⟨0, 0, .row et k bs es⟩] := by
 obtain ⟨hen, _, hc⟩ := hp
 refine ⟨by simp, hen, fun M w loc vs S hr => ⟨hen, ?_⟩⟩
 simp only [rdV] at hr
 obtain ⟨v0, r0, hvs, h0, hrest⟩ := hr
 simp only [rd] at h0
 have hv0 := h0 (loc 0) rfl
 have hk := S.ok ⟨0, 0, .row et k bs es⟩ (by simp)
 have hap := S.ap
 have W : Weak (curOf [(⟨0, 0, .row et k bs es⟩ : Ent)] loc) (curOf [(⟨0, 0, .row et k bs es⟩ : Ent)] loc) (hotOf [(⟨0, 0, .row et k bs es⟩ : Ent)] loc ++ M) M w.heap w.heap (max (mxR es) (mxL rest)) :=
  ⟨fun _ _ _ _ h => h, fun _ _ _ _ h => h, fun b _ hb _ _ hm => hb (List.mem_append_right _ hm)⟩
 refine (hc (curOf [(⟨0, 0, .row et k bs es⟩ : Ent)] loc) M w vs (fun b hb => S.lt b (List.mem_append_right _ hb)) ?_).mono ?_
 ·rw [hvs]
  simp only [rdV]
  refine ⟨v0, r0, rfl, ?_, rdV_weak W _ _ (by omega) hrest⟩
  simp only [rd]
  obtain ⟨hz, h⟩ := hk
  rcases h with ⟨he, _, h2⟩ | ⟨b, arr, cap, h1, h2, h3, h4, h5, h6, h7⟩
  ·subst he
   rw [hv0, h2]
   exact ⟨none, 0, by simp, by simp, by simp, hz, .inl ⟨rfl, fun _ => rfl⟩⟩
  ·rw [hv0, h2]
   refine ⟨some ⟨b, 0, none⟩, cap, rfl, h4, h5, hz, .inr ⟨b, 0, arr, et, (0, 0), rfl, hap b ?_, h3, rdR_weak W k es arr 0 (by omega) h7⟩⟩
   simp [hotOf, h1]
 ·rintro e w' ⟨v, rfl, hu, hrd⟩
  exact ⟨v, rfl, loc, S.keep hu, hu.nil, fun b hb => .inl hb, fun e he _ => curOf_self S.nd he, rd_simpT hd hrd⟩
theorem DW_nilS {P : Program} {B : Base} {Q : Exit → DS → Prop} {s : DS} {x : Code} (i k bs : Nat) (h : getS s.slots i = .nilsl) (hw : DW P B x Q ⟨(i, .sl k bs []) :: s.slots, s.own⟩) : DW P B x Q s := by
 refine DW_sub (s' := ⟨(i, .sl k bs []) :: s.slots, s.own⟩) (fun a w loc R => ⟨loc, R.st, R.upd, R.new, R.ver, fun j => ?_, R.nt, R.df⟩) hw
 simp only [getS]
 split
 ·rename_i hj
  subst hj
  have := R.sl j
  rw [h] at this
  simp only [rd] at this ⊢
  rw [this]
  exact ⟨none, 0, by simp, by simp, by simp, by simp, .inl ⟨by simp, fun _ => rfl⟩⟩
 ·exact R.sl j
end Go.Dm
end

section
set_option linter.unusedSectionVars false
/- grammars: the program's heads, names, occurrences, what is missing -/




set_option linter.unusedSimpArgs false
set_option linter.unusedVariables false
namespace Go.Proofs.YtdgocjbakjamaaaGreat
open Go Go.Dm
variable [DMode]
attribute [local irreducible] DW callP callS
set_option maxRecDepth 100000

theorem placeS_mem {l : List ByteArray} {s : ByteArray} : decide (0 ≤ placeS l s) = decide (s ∈ l) := by
 refine decide_eq_decide.2 ?_
 unfold placeS
 by_cases h : s ∈ l
 ·rw [if_pos (List.any_eq_true.2 ⟨s, h, by simp⟩)]
  simp only [h, iff_true]
  omega
 ·rw [if_neg (fun hh => h (by obtain ⟨x, hx, hs⟩ := List.any_eq_true.1 hh; simp at hs; subst hs; exact hx))]
  simp [h]
theorem contains128_pure (l : List ByteArray) (s : ByteArray) : DPure Tryz.prog 128 [dStrs l, .str s] (.bool (decide (s ∈ l))) := by
 rw [← placeS_mem]; exact contains104_pure l s

theorem containsO_spec (l : List ByteArray) (s : ByteArray) : DSpec Tryz.prog (.func 128) [.osl 0 0, .str s] [⟨0, 0, .row 9 1 16 (l.map dStr)⟩] (.bool (decide (s ∈ l))) [⟨0, 0, .row 9 1 16 (l.map dStr)⟩] :=
 DSpec_lend rfl (contains128_pure l s)

def anBN164 : Ann := ⟨[15], [⟨4, [5], [], []⟩]⟩
set_option maxHeartbeats 1000000 in
theorem heads64_pure (g : List Rul) : DPure Tryz.prog 64 [dRuls g] (dStrs (headsL g)) := by
 refine DPure_introF [3] (fn := Tryz.f64) Tryz.func64 rfl Tryz.call64 (by simp [Tryz.ntmps64]) (by simp [mx]) ?_
 intro hwf B hnt
 simp only [Tryz.ntmps64] at hnt
 have hA := an_is anBN164 Tryz.mixed (aj2 @anBN164.eq_1 Tryz.results64)
 have hs : g.length * 40 ≤ 150000000000000 := by have := hwf.1; simp only [wfD, List.length_map] at this; exact this.1
 clear hwf
 simp only [argS]
 (refine go1 aj0 aj0 aj0 ?_; intros; refine mk_i ?_)
 refine DW_adoptS 3 3 9 1 16 (by simp [hnt, Tryz.results64, anBN164]) (fun n => ?_)
 refine DW_loop (X := {i : Nat // i ≤ g.length}) (fun i => ⟨[(0, dRuls g), (3, .osl 3 1), (6, dRuls g), (7, .int .i64 g.length), (8, .int .i64 i.1)], [⟨3, 1, .row 9 1 16 ((headsL (g.take i.1)).map dStr)⟩]⟩) (fun i => g.length - i.1) ⟨0, by omega⟩ (Sub.lit (by simp [headsL])) ?_
 rintro ⟨i, hi⟩
 simp only
 by_cases hlt : i < g.length
 ·obtain ⟨r, hr, hr', hrm⟩ := at_lt' hlt
  have htk := headsL_take hr
  have hl := headsL_len (g.take i)
  rw [List.length_take] at hl
  obtain ⟨T, hT⟩ : ∃ T, T = headsL (g.take i) := ⟨_, rfl⟩
  rw [← hT] at htk hl ⊢
  have e1 := containsO_spec T r.h
  have z1 : (T.length + 1) * 16 ≤ 150000000000000 := by omega
  have z2 : T.length + 1 ≤ 9223372036854775807 := by omega
  unfold hStep at htk
  by_cases hm : r.h ∈ T
  ·rw [if_pos hm] at htk
   rw [decide_eq_true hm] at e1
   (refine go1 aj0 (aj1 (spc [(3,0)] [] e1)) (aj4 @dRul.eq_1 hlt hr hr') ?_; intros; refine mk_i ?_)
   refine Again.mk ⟨i + 1, by omega⟩ (Sub.lit (by simp [htk])) (by simp; omega)
   skip
  ·rw [if_neg hm] at htk
   rw [decide_eq_false hm] at e1
   (refine go1 aj0 (aj1 (spc [(3,0)] [] e1)) (aj6 @dRul.eq_1 hlt hr hr' z1 z2) ?_; intros; refine mk_i ?_)
   refine Again.mk ⟨i + 1, by omega⟩ (Sub.lit (by simp [htk, dStr])) (by simp; omega)
   skip
 ·have hkk : i = g.length := by omega
  subst hkk
  rw [List.take_length]
  exact go0 aj0 aj0 aj0

abbrev dCM (m : CM) : DObj := .map (strsD m.K) (intsV m.V)
def anBN1131 : Ann := ⟨[], [⟨4, [7], [], []⟩, ⟨7, [9], [], []⟩]⟩
set_option maxHeartbeats 2000000 in
theorem names131_spec (g : List Rul) (k : Int) : DSpec Tryz.prog (.func 131) [dRuls g, .int .i64 k] [] (.omp 0 1) [⟨0, 1, dCM (cntL (namesK k g))⟩] := by
 refine DSpec_intro [] [(10, 0, 1)] (fn := Tryz.f131) Tryz.func131 rfl Tryz.call131 (by simp [Tryz.ntmps131]) (by simp) (by simp) ?_
 intro hwf B hnt
 simp only [Tryz.ntmps131] at hnt
 have hA := an_is anBN1131 Tryz.mixed (aj2 @anBN1131.eq_1 Tryz.results131)
 have hwl := len_ruls hwf.1
 have hwb : ∀ r ∈ g, r.b.length < 9223372036854775807 := fun r hr => by
  have h1 := hwf.1
  obtain ⟨i, hi, rfl⟩ := List.getElem_of_mem hr
  have h2 : wfR (g.map dRul) := by simp only [wfD] at h1; exact h1.2.2
  have h3 := wfR_at h2 (List.getElem?_eq_getElem hi)
  simp only [dRul, wfL] at h3
  exact len_nds h3.2.1
 clear hwf
 simp only [argS, List.nil_append]
 (refine go1 aj0 aj0 aj0 ?_; intros; refine mk_i ?_)
 refine DW_loop (X := {i : Nat // i ≤ g.length}) (fun i => ⟨[(0, dRuls g), (1, .int .i64 k), (5, .omp 10 1), (11, dRuls g), (12, .int .i64 g.length), (13, .int .i64 i.1)], [⟨10, 1, dCM (cntL (namesK k (g.take i.1)))⟩]⟩) (fun i => g.length - i.1) ⟨0, by omega⟩ (Sub.lit (by simp [namesK, cntL, strsD, intsV])) ?_
 rintro ⟨i, hi⟩
 simp only
 by_cases hlt : i < g.length
 ·obtain ⟨r, hr, hr', hrm⟩ := at_lt' hlt
  have htk := namesK_take (k := k) hr
  have hrl := hwb r hrm
  obtain ⟨N, hN⟩ : ∃ N, N = namesK k (g.take i) := ⟨_, rfl⟩
  rw [← hN] at htk ⊢
  (refine go1 aj0 aj0 (aj4 @dRul.eq_1 hlt hr hr') ?_; intros; refine mk_i ?_)
  refine DW_loop (X := {j : Nat // j ≤ r.b.length}) (fun j => ⟨[(0, dRuls g), (1, .int .i64 k), (5, .omp 10 1), (11, dRuls g), (12, .int .i64 g.length), (13, .int .i64 i), (18, dNds r.b), (19, .int .i64 r.b.length), (20, .int .i64 j.1)], [⟨10, 1, dCM (cntL (N ++ namesN k (r.b.take j.1)))⟩]⟩) (fun j => r.b.length - j.1) ⟨0, by omega⟩ (Sub.lit (by simp [namesN])) ?_
  rintro ⟨j, hj⟩
  simp only
  by_cases hlt2 : j < r.b.length
  ·obtain ⟨x, hx, hx', hxm⟩ := at_lt' hlt2
   have htj := namesN_take (k := k) hx
   obtain ⟨E, hE⟩ : ∃ E, E = N ++ namesN k (r.b.take j) := ⟨_, rfl⟩
   have hE2 : N ++ namesN k (r.b.take (j + 1)) = E ++ (if x.k = k then [x.s] else []) := by rw [htj, hE, List.append_assoc]
   rw [← hE]
   by_cases hk : x.k = k
   ·rw [if_pos hk] at hE2
    have hst := cntL_snoc E x.s
    have hok := cnt_ok E
    obtain ⟨⟨Ks, V⟩, hm⟩ : ∃ m, m = cntL E := ⟨_, rfl⟩
    rw [← hm] at hst hok ⊢
    have hks := keyStrs Ks
    unfold cStep at hst
    simp only at hst
    by_cases hs : x.s ∈ Ks
    ·rw [if_pos hs] at hst
     have l1 := lookS_ix hs
     have l3 : ixS Ks x.s < V.length := by have := ixS_lt hs; have := hok.len; simp only at this; omega
     have v1 : (intsV V)[ixS Ks x.s]? = some (.int .i64 (V.getD (ixS Ks x.s) 0)) := by simp [intsV, l3]
     obtain ⟨q, hq⟩ : ∃ q, q = IntKind.i64.wrap (V.getD (ixS Ks x.s) 0 + 1) := ⟨_, rfl⟩
     have hq2 : IntKind.i64.wrap (V.getD (ixS Ks x.s) 0 + 1) = q := hq.symm
     rw [hq2] at hst
     obtain ⟨c, hcc⟩ : ∃ c, c = V.getD (ixS Ks x.s) 0 := ⟨_, rfl⟩
     rw [← hcc] at v1 hq2
     have st1 := intsV_set V (ixS Ks x.s) q
     obtain ⟨ix, hix⟩ : ∃ ix, ix = ixS Ks x.s := ⟨_, rfl⟩
     rw [← hix] at l1 v1 st1 hst
     (refine go1 aj0 aj0 (aj10 @dNd.eq_1 hlt2 hx hx' hk hks l1 v1 hq2 st1) ?_; intros; refine mk_i ?_)
     refine Again.mk ⟨j + 1, by omega⟩ (Sub.lit (by simp only [hE2, hst]; simp)) (by simp; omega)
     skip
    ·rw [if_neg hs] at hst
     have l1 := lookS_none hs
     have st1 := intsV_app V 1
     have sk1 := strsD_app Ks x.s
     (refine go1 aj0 aj0 (aj9 @dNd.eq_1 hlt2 hx hx' hk hks l1 st1 sk1) ?_; intros; refine mk_i ?_)
     refine Again.mk ⟨j + 1, by omega⟩ (Sub.lit (by simp only [hE2, hst]; simp)) (by simp; omega)
     skip
   ·have hk' : (x.k == k) = false := by simpa using hk
    rw [if_neg hk, List.append_nil] at hE2
    (refine go1 aj0 aj0 (aj6 @dNd.eq_1 hlt2 hx hx' hk hk') ?_; intros; refine mk_i ?_)
    refine Again.mk ⟨j + 1, by omega⟩ (Sub.lit (by simp only [hE2]; simp)) (by simp; omega)
    skip
  ·have hkk : j = r.b.length := by omega
   subst hkk
   rw [List.take_length]
   (refine go1 aj0 aj0 aj0 ?_; intros; refine mk_i ?_)
   refine Again.mk ⟨i + 1, by omega⟩ (Sub.lit (by simp only [htk]; simp)) (by simp; omega)
   skip
 ·have hkk : i = g.length := by omega
  subst hkk
  rw [List.take_length]
  exact go0 aj0 aj0 aj0

def delCM (m : CM) (s : ByteArray) : CM := if s ∈ m.K then ⟨m.K.eraseIdx (ixS m.K s), m.V.eraseIdx (ixS m.K s)⟩ else m
structure DelOk (m0 m : CM) (hs : List ByteArray) : Prop where
 len : m.K.length = m.V.length
 mem : ∀ s, s ∈ m.K ↔ s ∈ m0.K ∧ ¬ s ∈ hs
 nd : m.K.Nodup
theorem erase_mem {l : List ByteArray} (hn : l.Nodup) {s x : ByteArray} (hs : s ∈ l) : x ∈ l.eraseIdx (ixS l s) ↔ x ∈ l ∧ x ≠ s := by
 have hi := ixS_lt hs
 have hv : l[ixS l s] = s := by
  have := List.findIdx_getElem (xs := l) (p := fun x => s == x) (w := hi)
  simp at this
  exact this.symm
 rw [List.mem_eraseIdx_iff_getElem]
 constructor
 ·rintro ⟨i, hil, hne, rfl⟩
  refine ⟨List.getElem_mem hil, fun e => hne ?_⟩
  exact (List.getElem_inj hn).1 (e.trans hv.symm)
 ·rintro ⟨hx, hne⟩
  obtain ⟨i, hil, rfl⟩ := List.getElem_of_mem hx
  refine ⟨i, hil, fun e => hne ?_, rfl⟩
  subst e
  exact hv
theorem DelOk.step {m0 m : CM} {hs : List ByteArray} (h : DelOk m0 m hs) (s : ByteArray) : DelOk m0 (delCM m s) (hs ++ [s]) := by
 unfold delCM
 split
 ·rename_i hm
  refine ⟨?_, fun x => ?_, h.nd.sublist (List.eraseIdx_sublist _ _)⟩
  ·have := ixS_lt hm
   rw [List.length_eraseIdx_of_lt this, List.length_eraseIdx_of_lt (by have := h.len; omega), h.len]
  ·simp only
   rw [erase_mem h.nd hm, h.mem x, List.mem_append, List.mem_singleton]
   constructor
   ·rintro ⟨⟨a, b⟩, c⟩; exact ⟨a, fun hh => by rcases hh with hh | hh; exact b hh; exact c hh⟩
   ·rintro ⟨a, b⟩; exact ⟨⟨a, fun hh => b (.inl hh)⟩, fun hh => b (.inr hh)⟩
 ·rename_i hm
  refine ⟨h.len, fun x => ?_, h.nd⟩
  rw [h.mem x, List.mem_append, List.mem_singleton]
  constructor
  ·rintro ⟨a, b⟩; exact ⟨a, fun hh => by rcases hh with hh | hh; exact b hh; subst hh; exact hm ((h.mem x).2 ⟨a, b⟩)⟩
  ·rintro ⟨a, b⟩; exact ⟨a, fun hh => b (.inl hh)⟩
theorem intsV_erase (V : List Int) (j : Nat) : (intsV V).eraseIdx j = intsV (V.eraseIdx j) := by unfold intsV; rw [map_erase]
theorem strsD_erase (V : List ByteArray) (j : Nat) : (strsD V).eraseIdx j = strsD (V.eraseIdx j) := by unfold strsD; rw [map_erase]
def anBN1194 : Ann := ⟨[7], [⟨4, [5], [], []⟩]⟩
set_option maxHeartbeats 2000000 in
theorem missing194_pure (g : List Rul) (hn : (namesK 2 g).length ≤ 9223372036854775807) : DPure Tryz.prog 194 [dRuls g] (.int .i64 (missL g).length) := by
 refine DPure_introF [] (fn := Tryz.f194) Tryz.func194 rfl Tryz.call194 (by simp [Tryz.ntmps194]) (by simp [mx]) ?_
 intro hwf B hnt
 simp only [Tryz.ntmps194] at hnt
 have hA := an_is anBN1194 Tryz.mixed (aj2 @anBN1194.eq_1 Tryz.results194)
 have hwl := len_ruls hwf.1
 clear hwf
 simp only [argS]
 have e1 := names131_spec g 2
 have hok := cnt_ok (namesK 2 g)
 obtain ⟨m0, hm0⟩ : ∃ m, m = cntL (namesK 2 g) := ⟨_, rfl⟩
 rw [← hm0] at e1 hok
 (refine go1 aj0 (aj1 (spc [] [(7,0)] e1)) aj0 ?_; intros; refine mk_i ?_)
 refine DW_loop (X := {x : Nat × CM // x.1 ≤ g.length ∧ DelOk m0 x.2 ((g.take x.1).map (·.h))}) (fun x => ⟨[(0, dRuls g), (3, .omp 7 1), (8, dRuls g), (9, .int .i64 g.length), (10, .int .i64 x.1.1)], [⟨7, 1, dCM x.1.2⟩]⟩) (fun x => g.length - x.1.1) ⟨(0, m0), by simp, by simpa using hok.len, by simp, hok.nd⟩ (Sub.lit (by simp)) ?_
 rintro ⟨⟨i, m⟩, hi, hD⟩
 simp only at hi hD ⊢
 by_cases hlt : i < g.length
 ·obtain ⟨r, hr, hr', hrm⟩ := at_lt' hlt
  have hD2 : DelOk m0 (delCM m r.h) ((g.take (i + 1)).map (·.h)) := by
   have := hD.step r.h
   rw [List.take_add_one, hr, List.map_append]
   exact this
  obtain ⟨Ks, V⟩ := m
  have hks := keyStrs Ks
  unfold delCM at hD2
  simp only at hD2
  by_cases hs : r.h ∈ Ks
  ·rw [if_pos hs] at hD2
   have l1 := lookS_ix hs
   have s1 := strsD_erase Ks (ixS Ks r.h)
   have s2 := intsV_erase V (ixS Ks r.h)
   (refine go1 aj0 aj0 (aj10 @dRul.eq_1 hlt hr hr' hks l1 @delK.eq_1 @delV.eq_1 s1 s2) ?_; intros; refine mk_i ?_)
   refine Again.mk ⟨(i + 1, _), show i + 1 ≤ g.length ∧ _ from ⟨by omega, hD2⟩⟩ (Sub.lit (by simp)) (by simp; omega)
   skip
  ·rw [if_neg hs] at hD2
   have l1 := lookS_none hs
   (refine go1 aj0 aj0 (aj8 @dRul.eq_1 hlt hr hr' hks l1 @delK.eq_1 @delV.eq_1) ?_; intros; refine mk_i ?_)
   refine Again.mk ⟨(i + 1, _), show i + 1 ≤ g.length ∧ _ from ⟨by omega, hD2⟩⟩ (Sub.lit (by simp)) (by simp; omega)
   skip
 ·have hkk : i = g.length := by omega
  subst hkk
  rw [List.take_length] at hD
  have hml : m.K.length = (missL g).length := miss_len hD.nd fun s => by
   rw [hD.mem s, hok.mem s, headsL_mem]
   simp
  have hsl := strsD_len m.K
  rw [hml] at hsl
  have hle : (missL g).length ≤ 9223372036854775807 := Nat.le_trans (Nat.le_trans (List.length_filter_le _ _) (uniqS_len _)) hn
  obtain ⟨Ks, V⟩ := m
  exact go0 aj0 aj0 (aj2 hsl hle)

end Go.Proofs.YtdgocjbakjamaaaGreat
end

section
set_option linter.unusedSectionVars false
/- regular expressions by definition: texts, bounds, Check, places -/



set_option linter.unusedSimpArgs false
set_option linter.unusedVariables false
namespace Go.Proofs.YtdgocjbakjamaaaGreat
open Go Go.Dm
variable [DMode]
attribute [local irreducible] DW callP callS
set_option maxRecDepth 100000

theorem okL_take {ks : List RT} (h : okL ks = true) (i : Nat) : okL (ks.take i) = true := by
 have := okL_app (ks.take i) (ks.drop i)
 rw [List.take_append_drop, h] at this
 simpa using (by simpa using this.symm : okL (ks.take i) = true ∧ okL (ks.drop i) = true).1
def accT (x : Nd) (ks : List RT) (i : Nat) : ByteArray := if i = 0 then x.s else joinB (txtL x.k (ks.take i)) (btw x.k)
theorem accT_zero (x : Nd) (ks : List RT) : accT x ks 0 = x.s := rfl
theorem accT_one {x : Nd} {ks : List RT} {u : RT} (h : ks[0]? = some u) : accT x ks 1 = parT x.k u.x.k (txtT u) := by
 unfold accT
 rw [if_neg (by omega), show ks.take 1 = [u] by rw [List.take_add_one, h]; simp, txtL_cons, txtL_nil]
 rfl
theorem accT_succ {x : Nd} {ks : List RT} {i : Nat} {u : RT} (hi : 0 < i) (h : ks[i]? = some u) : accT x ks (i + 1) = accT x ks i ++ btw x.k ++ parT x.k u.x.k (txtT u) := by
 unfold accT
 rw [if_neg (by omega), if_neg (by omega), txtL_take h]
 obtain ⟨hl, _⟩ := List.getElem?_eq_some_iff.1 h
 have hne : txtL x.k (ks.take i) ≠ [] := fun e => by
  have := congrArg List.length e
  rw [txtL_len, List.length_take] at this
  simp only [List.length_nil] at this
  omega
 cases hx : txtL x.k (ks.take i) with
 | nil => exact absurd hx hne
 | cons y r =>
  show (r ++ [_]).foldl (joinF (btw x.k)) y = _
  rw [List.foldl_append]
  rfl
theorem accT_size {x : Nd} {ks : List RT} (hok : okL ks = true) (hs : x.s.size ≤ 16) (i : Nat) : (accT x ks i).size ≤ 16 + 24 * (flatL ks).length := by
 unfold accT
 split
 ·omega
 ·have h1 := joinB_size (txtL x.k (ks.take i)) (btw x.k) (btw_size _)
  have h2 := (txt_sizeL x.k (ks.take i) (okL_take hok i)).1
  have h3 := flatL_take_le ks i
  omega
theorem empty_s {x : Nd} (h : mayN x = true) (h2 : ¬ (x.k = 2 ∨ x.k = 3)) : x.s = ⟨#[]⟩ := by
 unfold mayN emp at h
 rw [if_neg (fun e => h2 (.inl e)), if_neg (fun e => h2 (.inr e))] at h
 repeat' split at h
 all_goals simp only [Bool.and_eq_true, decide_eq_true_eq, Bool.false_eq_true] at h
 all_goals first | exact h.1 | (exact absurd h (by simp))
theorem str_app0r (x : ByteArray) : x ++ (⟨#[]⟩ : ByteArray) = x := by
 apply bytes_ext
 simp [ByteArray.data_append]

def anRY4162 : Ann := ⟨[], []⟩
set_option maxHeartbeats 8000000 in
theorem textAt_pure : ∀ (n : Nat) (t : RT) (l : List Nd) (p : Nat), (flat t).length = n → At l p t → l.length ≤ 1310720 → DPure Tryz.prog 162 [dNds l, .int .i64 p] (.str (txtT t)) := by
 intro n
 induction n using Nat.strongRecOn with
 | ind n ih =>
 intro t l p hn ht hs
 obtain ⟨x, ks⟩ := t
 have kk := kids81_pure l p x ks ht hs
 obtain ⟨hm, hkn, hok⟩ := okT_mk ht.ok
 obtain ⟨g0, gl, ge⟩ := ht.head
 simp only [RT.x] at g0
 have g0' : l[p]'gl = x := (List.getElem?_eq_some_iff.1 g0).2
 have hfl : (flat (.mk x ks)).length = (flatL ks).length + 1 := by rw [flat_mk, List.length_cons]
 have hkl := flatL_len ks
 have hk9 : ks.length ≤ 1310720 := by omega
 have hch : ∀ i u, ks[i]? = some u → DPure Tryz.prog 162 [dNds l, .int .i64 (kidP p ks i)] (.str (txtT u)) ∧ l[kidP p ks i]? = some u.x ∧ (txtT u).size ≤ 31457280 := fun i u hu => by
  have hm := flatL_mem (List.mem_of_getElem? hu)
  have hu2 := (ht.kid hu).1
  have h3 := (txt_sizeT u hu2.ok).2
  exact ⟨ih (flat u).length (by omega) u l _ rfl hu2 hs, hu2.head.1, by omega⟩
 have hrow : ∀ i, i < ks.length → _ := fun i h => kids_row (p := p) (ks := ks) (i := i) h
 have hacs := accT_size (x := x) hok (mayN_size hm)
 have hxs := mayN_size hm
 have hbig : 16 + 24 * (flatL ks).length ≤ 31457300 := by omega
 rw [txtT_mk]
 unfold kidsD at kk
 obtain ⟨D, hD⟩ : ∃ D, D = (List.range ks.length).map fun i => kidD (kidP p ks i) := ⟨_, rfl⟩
 have hDl : D.length = ks.length := by rw [hD]; simp
 have hDm : mxR D = 0 := by rw [hD]; exact mx_kids p ks _
 rw [← hD] at kk hrow
 have h6 : x.k = 6 ∨ x.k = 7 ∨ x.k = 8 → ks.length = 1 := fun h => by obtain ⟨u, rfl⟩ := one_kid ht.ok h; rfl
 have h8 : ¬ x.k = 1 → ¬ (x.k = 2 ∨ x.k = 3) → ¬ x.k = 5 → x.k = 4 ∨ x.k = 6 ∨ x.k = 7 ∨ x.k = 8 := fun a b c => by have := mayN_kind hm; omega
 have hlf : x.k = 2 ∨ x.k = 3 → ks.length = 0 := fun h => by rw [leaf_nil ht.ok h]; rfl
 have hpos : ¬ x.k = 1 → ¬ (x.k = 2 ∨ x.k = 3) → 1 ≤ ks.length := fun a b => by have := mayN_many hm a b; omega
 have hemp : ¬ (x.k = 2 ∨ x.k = 3) → x.s = ⟨#[]⟩ := empty_s hm
 clear hD ih ht ge hn hok hm
 have z0 : (⟨#[]⟩ : ByteArray).size = 0 := rfl
 have z1 : (⟨#[37]⟩ : ByteArray).size = 1 := rfl
 have z2 : (⟨#[32]⟩ : ByteArray).size = 1 := rfl
 have z3 : (⟨#[32, 124, 32]⟩ : ByteArray).size = 3 := rfl
 have z4 : (⟨#[40]⟩ : ByteArray).size = 1 := rfl
 have z5 : (⟨#[41]⟩ : ByteArray).size = 1 := rfl
 have z6 : (⟨#[42]⟩ : ByteArray).size = 1 := rfl
 have z7 : (⟨#[43]⟩ : ByteArray).size = 1 := rfl
 have z8 : (⟨#[63]⟩ : ByteArray).size = 1 := rfl
 have m1 : 1 ≤ maxLen := by decide
 have m3 : 3 ≤ maxLen := by decide
 have mbig : 100000000 ≤ maxLen := by decide
 refine DPure_introF [] (fn := Tryz.f162) Tryz.func162 rfl Tryz.call162 (by simp [Tryz.ntmps162]) (by simp [mx]) ?_
 intro hwf B hnt
 simp only [Tryz.ntmps162] at hnt
 have hA := an_is anRY4162 Tryz.mixed (aj2 @anRY4162.eq_1 Tryz.results162)
 clear hwf
 simp only [argS]
 by_cases k1 : x.k = 1
 ·rw [if_pos k1]
  exact go0 aj0 aj0 (aj7 @dNd.eq_1 g0 g0' gl z1 m1 k1)
 rw [if_neg k1]
 obtain ⟨R, hR⟩ : ∃ R, R = (if x.k = 2 ∨ x.k = 3 then x.s else joinB (txtL x.k ks) (btw x.k) ++ sgn x.k) := ⟨_, rfl⟩
 rw [← hR]
 have k1' : (x.k == 1) = false := by simpa using k1
 (refine go1 (aj1 kk) aj0 (aj6 @dNd.eq_1 g0 g0' gl k1 k1') ?_; intros; refine mk_i ?_)
 refine DW_loop (X := {i : Nat // i ≤ ks.length}) (fun i => ⟨[(0, dNds l), (5, .int .i64 x.k), (6, .str (accT x ks i.1)), (7, .sl 1 8 D), (8, .int .i64 i.1)], []⟩) (fun i => ks.length - i.1) ⟨0, by omega⟩ (Sub.lit (by simp [accT_zero, hDm])) ?_
 rintro ⟨i, hi⟩
 simp only
 by_cases hlt : i < ks.length
 ·have k2 : ¬ (x.k = 2 ∨ x.k = 3) := fun h => by have := hlf h; omega
  have hx0 := hemp k2
  obtain ⟨u, hu, hu', _⟩ := at_lt' hlt
  obtain ⟨e1, gu, hus⟩ := hch i u hu
  have hr := hrow i hlt
  have hltD : i < D.length := by omega
  have hwi : IntKind.i64.wrap ((i : Int) + 1) = (i : Int) + 1 := wrap64_in (by omega) (by omega)
  have hr' : D[i]'hltD = [.int .i64 (kidP p ks i : Int)] := (List.getElem?_eq_some_iff.1 hr).2
  have hac := hacs i
  obtain ⟨q, hq⟩ : ∃ q, q = kidP p ks i := ⟨_, rfl⟩
  rw [← hq] at e1 hr hr' gu
  have gq : q < l.length := (List.getElem?_eq_some_iff.1 gu).1
  have gu' : l[q]'gq = u.x := (List.getElem?_eq_some_iff.1 gu).2
  have hpt : parT x.k u.x.k (txtT u) = if parB x.k u.x.k then ⟨#[40]⟩ ++ txtT u ++ ⟨#[41]⟩ else txtT u := rfl
  have hnx : accT x ks (i + 1) = (if i = 0 then ⟨#[]⟩ else accT x ks i ++ btw x.k) ++ parT x.k u.x.k (txtT u) := by
   by_cases h0 : i = 0
   ·subst h0; rw [if_pos rfl, str_app0]; exact accT_one hu
   ·rw [if_neg h0]; exact accT_succ (by omega) hu
  have hz : i = 0 → accT x ks i = ⟨#[]⟩ := fun h => by rw [h, accT_zero, hx0]
  obtain ⟨s, hs2⟩ : ∃ s, s = txtT u := ⟨_, rfl⟩
  rw [← hs2] at e1 hus hpt hnx
  obtain ⟨P, hP⟩ : ∃ P, P = parT x.k u.x.k s := ⟨_, rfl⟩
  rw [← hP] at hpt hnx
  obtain ⟨a, ha⟩ : ∃ a, a = accT x ks i := ⟨_, rfl⟩
  rw [← ha] at hac hnx hz ⊢
  have y3 : 1 + s.size ≤ maxLen := by omega
  have y4 : 1 + s.size + 1 ≤ maxLen := by omega
  have y5 : a.size + 3 ≤ maxLen := by omega
  have y6 : a.size + 1 ≤ maxLen := by omega
  have y7 : a.size + P.size ≤ maxLen := by
   have := (parT_size x.k u.x.k s).2; rw [← hP] at this; omega
  have y8 : a.size + 3 + P.size ≤ maxLen := by
   have := (parT_size x.k u.x.k s).2; rw [← hP] at this; omega
  have y9 : a.size + 1 + P.size ≤ maxLen := by omega
  unfold parB at hpt
  clear hs2 ha hP
  unfold btw at hnx
  by_cases h0 : i = 0
  ·have hp0 : ¬ (0 : Int) < (i : Int) := by omega
   rw [if_pos h0, str_app0] at hnx
   have ha0 := hz h0
   subst ha0
   have w1 : ⟨#[]⟩ ++ P = P := str_app0 P
   have y7' : P.size ≤ maxLen := by omega
   by_cases p5 : u.x.k = 5
   ·simp [p5] at hpt
    subst hpt
    simp only [ByteArray.size_append, z4, z5] at y7'
    (repeat (first | refine DW_seq fun K hK => ?_ | (refine DW_r anRY4162 Tryz.mixed (by kernel_rfl) ?_; simp [anRY4162, hnt, dNd, gu, gu', gq, hltD, hDl, hwi, hr, hr', hlt, hp0, p5, z0, z4, z5, m1, y3, y4, y7', w1, ByteArray.size_append]; try simp (disch := omega) only [wrap64_in]) | refine DW_block ?_ | (refine DW_if ?_ ?_ ?_; (· (simp [hnt, dNd, gu, gu', gq, hltD, hDl, hwi, hr, hr', hlt, hp0, p5, z0, z4, z5, m1, y3, y4, y7', w1, ByteArray.size_append]; done)); (try (rotate_left; (· (intro hc; (try simp [hnt, dNd, gu, gu', gq, hltD, hDl, hwi, hr, hr', hlt, hp0, p5, z0, z4, z5, m1, y3, y4, y7', w1, ByteArray.size_append] at hc); done))))) | (refine DW_ret ?_; simp [Tryz.results162, hnt, dNd, gu, gu', gq, hltD, hDl, hwi, hr, hr', hlt, hp0, p5, z0, z4, z5, m1, y3, y4, y7', w1, ByteArray.size_append]) | ((first | refine DW_exit ?_ | refine DW_skip ?_); simp [hnt, dNd, gu, gu', gq, hltD, hDl, hwi, hr, hr', hlt, hp0, p5, z0, z4, z5, m1, y3, y4, y7', w1, ByteArray.size_append]) | (intro hc; (try simp [hnt, dNd, gu, gu', gq, hltD, hDl, hwi, hr, hr', hlt, hp0, p5, z0, z4, z5, m1, y3, y4, y7', w1, ByteArray.size_append] at hc); (try (exfalso; omega))) | ((first | refine callP_mk (e1) ?_ | (refine callP_wk (e1) ?_ ?_; (· (simp; done)))); try simp [hnt, dNd, gu, gu', gq, hltD, hDl, hwi, hr, hr', hlt, hp0, p5, z0, z4, z5, m1, y3, y4, y7', w1, ByteArray.size_append]) | (refine ⟨?_, ?_⟩; · omega) | omega | apply_assumption -exfalso -symm | (exfalso; omega)))
    refine Again.mk ⟨i + 1, by omega⟩ (Sub.lit (by simp [hnx, hDm])) (by simp; omega)
    skip
   ·have p5' : (u.x.k == 5) = false := by simpa using p5
    by_cases p4 : u.x.k = 4
    ·by_cases q5 : x.k = 5
     ·simp [p4, q5] at hpt
      subst hpt
      (repeat (first | refine DW_seq fun K hK => ?_ | (refine DW_r anRY4162 Tryz.mixed (by kernel_rfl) ?_; simp [anRY4162, hnt, dNd, gu, gu', gq, hltD, hDl, hwi, hr, hr', hlt, hp0, p4, p5, p5', q5, z0, z4, z5, m1, y3, y4, y7', w1, ByteArray.size_append]; try simp (disch := omega) only [wrap64_in]) | refine DW_block ?_ | (refine DW_if ?_ ?_ ?_; (· (simp [hnt, dNd, gu, gu', gq, hltD, hDl, hwi, hr, hr', hlt, hp0, p4, p5, p5', q5, z0, z4, z5, m1, y3, y4, y7', w1, ByteArray.size_append]; done)); (try (rotate_left; (· (intro hc; (try simp [hnt, dNd, gu, gu', gq, hltD, hDl, hwi, hr, hr', hlt, hp0, p4, p5, p5', q5, z0, z4, z5, m1, y3, y4, y7', w1, ByteArray.size_append] at hc); done))))) | (refine DW_ret ?_; simp [Tryz.results162, hnt, dNd, gu, gu', gq, hltD, hDl, hwi, hr, hr', hlt, hp0, p4, p5, p5', q5, z0, z4, z5, m1, y3, y4, y7', w1, ByteArray.size_append]) | ((first | refine DW_exit ?_ | refine DW_skip ?_); simp [hnt, dNd, gu, gu', gq, hltD, hDl, hwi, hr, hr', hlt, hp0, p4, p5, p5', q5, z0, z4, z5, m1, y3, y4, y7', w1, ByteArray.size_append]) | (intro hc; (try simp [hnt, dNd, gu, gu', gq, hltD, hDl, hwi, hr, hr', hlt, hp0, p4, p5, p5', q5, z0, z4, z5, m1, y3, y4, y7', w1, ByteArray.size_append] at hc); (try (exfalso; omega))) | ((first | refine callP_mk (e1) ?_ | (refine callP_wk (e1) ?_ ?_; (· (simp; done)))); try simp [hnt, dNd, gu, gu', gq, hltD, hDl, hwi, hr, hr', hlt, hp0, p4, p5, p5', q5, z0, z4, z5, m1, y3, y4, y7', w1, ByteArray.size_append]) | (refine ⟨?_, ?_⟩; · omega) | omega | apply_assumption -exfalso -symm | (exfalso; omega)))
      refine Again.mk ⟨i + 1, by omega⟩ (Sub.lit (by simp [hnx, hDm, q5])) (by simp; omega)
      skip
     ·have q5' : (x.k == 5) = false := by simpa using q5
      simp [p4, q5] at hpt
      subst hpt
      simp only [ByteArray.size_append, z4, z5] at y7'
      (repeat (first | refine DW_seq fun K hK => ?_ | (refine DW_r anRY4162 Tryz.mixed (by kernel_rfl) ?_; simp [anRY4162, hnt, dNd, gu, gu', gq, hltD, hDl, hwi, hr, hr', hlt, hp0, p4, p5, p5', q5, q5', z0, z4, z5, m1, y3, y4, y7', w1, ByteArray.size_append]; try simp (disch := omega) only [wrap64_in]) | refine DW_block ?_ | (refine DW_if ?_ ?_ ?_; (· (simp [hnt, dNd, gu, gu', gq, hltD, hDl, hwi, hr, hr', hlt, hp0, p4, p5, p5', q5, q5', z0, z4, z5, m1, y3, y4, y7', w1, ByteArray.size_append]; done)); (try (rotate_left; (· (intro hc; (try simp [hnt, dNd, gu, gu', gq, hltD, hDl, hwi, hr, hr', hlt, hp0, p4, p5, p5', q5, q5', z0, z4, z5, m1, y3, y4, y7', w1, ByteArray.size_append] at hc); done))))) | (refine DW_ret ?_; simp [Tryz.results162, hnt, dNd, gu, gu', gq, hltD, hDl, hwi, hr, hr', hlt, hp0, p4, p5, p5', q5, q5', z0, z4, z5, m1, y3, y4, y7', w1, ByteArray.size_append]) | ((first | refine DW_exit ?_ | refine DW_skip ?_); simp [hnt, dNd, gu, gu', gq, hltD, hDl, hwi, hr, hr', hlt, hp0, p4, p5, p5', q5, q5', z0, z4, z5, m1, y3, y4, y7', w1, ByteArray.size_append]) | (intro hc; (try simp [hnt, dNd, gu, gu', gq, hltD, hDl, hwi, hr, hr', hlt, hp0, p4, p5, p5', q5, q5', z0, z4, z5, m1, y3, y4, y7', w1, ByteArray.size_append] at hc); (try (exfalso; omega))) | ((first | refine callP_mk (e1) ?_ | (refine callP_wk (e1) ?_ ?_; (· (simp; done)))); try simp [hnt, dNd, gu, gu', gq, hltD, hDl, hwi, hr, hr', hlt, hp0, p4, p5, p5', q5, q5', z0, z4, z5, m1, y3, y4, y7', w1, ByteArray.size_append]) | (refine ⟨?_, ?_⟩; · omega) | omega | apply_assumption -exfalso -symm | (exfalso; omega)))
      refine Again.mk ⟨i + 1, by omega⟩ (Sub.lit (by simp [hnx, hDm])) (by simp; omega)
      skip
    ·have p4' : (u.x.k == 4) = false := by simpa using p4
     simp [p4, p5] at hpt
     subst hpt
     (repeat (first | refine DW_seq fun K hK => ?_ | (refine DW_r anRY4162 Tryz.mixed (by kernel_rfl) ?_; simp [anRY4162, hnt, dNd, gu, gu', gq, hltD, hDl, hwi, hr, hr', hlt, hp0, p4, p4', p5, p5', z0, z4, z5, m1, y3, y4, y7', w1, ByteArray.size_append]; try simp (disch := omega) only [wrap64_in]) | refine DW_block ?_ | (refine DW_if ?_ ?_ ?_; (· (simp [hnt, dNd, gu, gu', gq, hltD, hDl, hwi, hr, hr', hlt, hp0, p4, p4', p5, p5', z0, z4, z5, m1, y3, y4, y7', w1, ByteArray.size_append]; done)); (try (rotate_left; (· (intro hc; (try simp [hnt, dNd, gu, gu', gq, hltD, hDl, hwi, hr, hr', hlt, hp0, p4, p4', p5, p5', z0, z4, z5, m1, y3, y4, y7', w1, ByteArray.size_append] at hc); done))))) | (refine DW_ret ?_; simp [Tryz.results162, hnt, dNd, gu, gu', gq, hltD, hDl, hwi, hr, hr', hlt, hp0, p4, p4', p5, p5', z0, z4, z5, m1, y3, y4, y7', w1, ByteArray.size_append]) | ((first | refine DW_exit ?_ | refine DW_skip ?_); simp [hnt, dNd, gu, gu', gq, hltD, hDl, hwi, hr, hr', hlt, hp0, p4, p4', p5, p5', z0, z4, z5, m1, y3, y4, y7', w1, ByteArray.size_append]) | (intro hc; (try simp [hnt, dNd, gu, gu', gq, hltD, hDl, hwi, hr, hr', hlt, hp0, p4, p4', p5, p5', z0, z4, z5, m1, y3, y4, y7', w1, ByteArray.size_append] at hc); (try (exfalso; omega))) | ((first | refine callP_mk (e1) ?_ | (refine callP_wk (e1) ?_ ?_; (· (simp; done)))); try simp [hnt, dNd, gu, gu', gq, hltD, hDl, hwi, hr, hr', hlt, hp0, p4, p4', p5, p5', z0, z4, z5, m1, y3, y4, y7', w1, ByteArray.size_append]) | (refine ⟨?_, ?_⟩; · omega) | omega | apply_assumption -exfalso -symm | (exfalso; omega)))
     refine Again.mk ⟨i + 1, by omega⟩ (Sub.lit (by simp [hnx, hDm])) (by simp; omega)
     skip
  ·have hp0 : (0 : Int) < (i : Int) := by omega
   rw [if_neg h0] at hnx
   clear hz
   by_cases q5 : x.k = 5
   ·rw [if_pos q5] at hnx
    have q4' : (x.k == 4) = false := by simp [q5]
    by_cases p5 : u.x.k = 5
    ·simp [p5] at hpt
     subst hpt
     simp only [ByteArray.size_append, z4, z5] at y8
     (repeat (first | refine DW_seq fun K hK => ?_ | (refine DW_r anRY4162 Tryz.mixed (by kernel_rfl) ?_; simp [anRY4162, hnt, dNd, gu, gu', gq, hltD, hDl, hwi, hr, hr', hlt, hp0, p5, q5, q4', z0, z3, z4, z5, m1, m3, y3, y4, y5, y8, ByteArray.size_append]; try simp (disch := omega) only [wrap64_in]) | refine DW_block ?_ | (refine DW_if ?_ ?_ ?_; (· (simp [hnt, dNd, gu, gu', gq, hltD, hDl, hwi, hr, hr', hlt, hp0, p5, q5, q4', z0, z3, z4, z5, m1, m3, y3, y4, y5, y8, ByteArray.size_append]; done)); (try (rotate_left; (· (intro hc; (try simp [hnt, dNd, gu, gu', gq, hltD, hDl, hwi, hr, hr', hlt, hp0, p5, q5, q4', z0, z3, z4, z5, m1, m3, y3, y4, y5, y8, ByteArray.size_append] at hc); done))))) | (refine DW_ret ?_; simp [Tryz.results162, hnt, dNd, gu, gu', gq, hltD, hDl, hwi, hr, hr', hlt, hp0, p5, q5, q4', z0, z3, z4, z5, m1, m3, y3, y4, y5, y8, ByteArray.size_append]) | ((first | refine DW_exit ?_ | refine DW_skip ?_); simp [hnt, dNd, gu, gu', gq, hltD, hDl, hwi, hr, hr', hlt, hp0, p5, q5, q4', z0, z3, z4, z5, m1, m3, y3, y4, y5, y8, ByteArray.size_append]) | (intro hc; (try simp [hnt, dNd, gu, gu', gq, hltD, hDl, hwi, hr, hr', hlt, hp0, p5, q5, q4', z0, z3, z4, z5, m1, m3, y3, y4, y5, y8, ByteArray.size_append] at hc); (try (exfalso; omega))) | ((first | refine callP_mk (e1) ?_ | (refine callP_wk (e1) ?_ ?_; (· (simp; done)))); try simp [hnt, dNd, gu, gu', gq, hltD, hDl, hwi, hr, hr', hlt, hp0, p5, q5, q4', z0, z3, z4, z5, m1, m3, y3, y4, y5, y8, ByteArray.size_append]) | (refine ⟨?_, ?_⟩; · omega) | omega | apply_assumption -exfalso -symm | (exfalso; omega)))
     refine Again.mk ⟨i + 1, by omega⟩ (Sub.lit (by simp [hnx, hDm, q5])) (by simp; omega)
     exact go0 (aj1 e1) aj0 aj0
    ·have p5' : (u.x.k == 5) = false := by simpa using p5
     simp [p5, q5] at hpt
     subst hpt
     by_cases p4 : u.x.k = 4
     ·(repeat (first | refine DW_seq fun K hK => ?_ | (refine DW_r anRY4162 Tryz.mixed (by kernel_rfl) ?_; simp [anRY4162, hnt, dNd, gu, gu', gq, hltD, hDl, hwi, hr, hr', hlt, hp0, p5, p5', p4, q5, q4', z0, z3, z4, z5, m1, m3, y3, y4, y5, y8, ByteArray.size_append]; try simp (disch := omega) only [wrap64_in]) | refine DW_block ?_ | (refine DW_if ?_ ?_ ?_; (· (simp [hnt, dNd, gu, gu', gq, hltD, hDl, hwi, hr, hr', hlt, hp0, p5, p5', p4, q5, q4', z0, z3, z4, z5, m1, m3, y3, y4, y5, y8, ByteArray.size_append]; done)); (try (rotate_left; (· (intro hc; (try simp [hnt, dNd, gu, gu', gq, hltD, hDl, hwi, hr, hr', hlt, hp0, p5, p5', p4, q5, q4', z0, z3, z4, z5, m1, m3, y3, y4, y5, y8, ByteArray.size_append] at hc); done))))) | (refine DW_ret ?_; simp [Tryz.results162, hnt, dNd, gu, gu', gq, hltD, hDl, hwi, hr, hr', hlt, hp0, p5, p5', p4, q5, q4', z0, z3, z4, z5, m1, m3, y3, y4, y5, y8, ByteArray.size_append]) | ((first | refine DW_exit ?_ | refine DW_skip ?_); simp [hnt, dNd, gu, gu', gq, hltD, hDl, hwi, hr, hr', hlt, hp0, p5, p5', p4, q5, q4', z0, z3, z4, z5, m1, m3, y3, y4, y5, y8, ByteArray.size_append]) | (intro hc; (try simp [hnt, dNd, gu, gu', gq, hltD, hDl, hwi, hr, hr', hlt, hp0, p5, p5', p4, q5, q4', z0, z3, z4, z5, m1, m3, y3, y4, y5, y8, ByteArray.size_append] at hc); (try (exfalso; omega))) | ((first | refine callP_mk (e1) ?_ | (refine callP_wk (e1) ?_ ?_; (· (simp; done)))); try simp [hnt, dNd, gu, gu', gq, hltD, hDl, hwi, hr, hr', hlt, hp0, p5, p5', p4, q5, q4', z0, z3, z4, z5, m1, m3, y3, y4, y5, y8, ByteArray.size_append]) | (refine ⟨?_, ?_⟩; · omega) | omega | apply_assumption -exfalso -symm | (exfalso; omega)))
      refine Again.mk ⟨i + 1, by omega⟩ (Sub.lit (by simp [hnx, hDm, q5])) (by simp; omega)
      exact go0 (aj1 e1) aj0 aj0
     ·have p4' : (u.x.k == 4) = false := by simpa using p4
      (repeat (first | refine DW_seq fun K hK => ?_ | (refine DW_r anRY4162 Tryz.mixed (by kernel_rfl) ?_; simp [anRY4162, hnt, dNd, gu, gu', gq, hltD, hDl, hwi, hr, hr', hlt, hp0, p5, p5', p4, p4', q5, q4', z0, z3, z4, z5, m1, m3, y3, y4, y5, y8, ByteArray.size_append]; try simp (disch := omega) only [wrap64_in]) | refine DW_block ?_ | (refine DW_if ?_ ?_ ?_; (· (simp [hnt, dNd, gu, gu', gq, hltD, hDl, hwi, hr, hr', hlt, hp0, p5, p5', p4, p4', q5, q4', z0, z3, z4, z5, m1, m3, y3, y4, y5, y8, ByteArray.size_append]; done)); (try (rotate_left; (· (intro hc; (try simp [hnt, dNd, gu, gu', gq, hltD, hDl, hwi, hr, hr', hlt, hp0, p5, p5', p4, p4', q5, q4', z0, z3, z4, z5, m1, m3, y3, y4, y5, y8, ByteArray.size_append] at hc); done))))) | (refine DW_ret ?_; simp [Tryz.results162, hnt, dNd, gu, gu', gq, hltD, hDl, hwi, hr, hr', hlt, hp0, p5, p5', p4, p4', q5, q4', z0, z3, z4, z5, m1, m3, y3, y4, y5, y8, ByteArray.size_append]) | ((first | refine DW_exit ?_ | refine DW_skip ?_); simp [hnt, dNd, gu, gu', gq, hltD, hDl, hwi, hr, hr', hlt, hp0, p5, p5', p4, p4', q5, q4', z0, z3, z4, z5, m1, m3, y3, y4, y5, y8, ByteArray.size_append]) | (intro hc; (try simp [hnt, dNd, gu, gu', gq, hltD, hDl, hwi, hr, hr', hlt, hp0, p5, p5', p4, p4', q5, q4', z0, z3, z4, z5, m1, m3, y3, y4, y5, y8, ByteArray.size_append] at hc); (try (exfalso; omega))) | ((first | refine callP_mk (e1) ?_ | (refine callP_wk (e1) ?_ ?_; (· (simp; done)))); try simp [hnt, dNd, gu, gu', gq, hltD, hDl, hwi, hr, hr', hlt, hp0, p5, p5', p4, p4', q5, q4', z0, z3, z4, z5, m1, m3, y3, y4, y5, y8, ByteArray.size_append]) | (refine ⟨?_, ?_⟩; · omega) | omega | apply_assumption -exfalso -symm | (exfalso; omega)))
      refine Again.mk ⟨i + 1, by omega⟩ (Sub.lit (by simp [hnx, hDm, q5])) (by simp; omega)
      exact go0 (aj1 e1) aj0 aj0
   ·have q5' : (x.k == 5) = false := by simpa using q5
    have q4 : x.k = 4 := by
     rcases (show x.k = 4 ∨ x.k = 6 ∨ x.k = 7 ∨ x.k = 8 from h8 k1 k2 q5) with h | h
     ·exact h
     ·have := h6 h; omega
    rw [if_neg q5, if_pos q4] at hnx
    by_cases p5 : u.x.k = 5
    ·simp [p5] at hpt
     subst hpt
     simp only [ByteArray.size_append, z4, z5] at y9
     (repeat (first | refine DW_seq fun K hK => ?_ | (refine DW_r anRY4162 Tryz.mixed (by kernel_rfl) ?_; simp [anRY4162, hnt, dNd, gu, gu', gq, hltD, hDl, hwi, hr, hr', hlt, hp0, p5, q5, q5', q4, z0, z2, z4, z5, m1, y3, y4, y6, y9, ByteArray.size_append]; try simp (disch := omega) only [wrap64_in]) | refine DW_block ?_ | (refine DW_if ?_ ?_ ?_; (· (simp [hnt, dNd, gu, gu', gq, hltD, hDl, hwi, hr, hr', hlt, hp0, p5, q5, q5', q4, z0, z2, z4, z5, m1, y3, y4, y6, y9, ByteArray.size_append]; done)); (try (rotate_left; (· (intro hc; (try simp [hnt, dNd, gu, gu', gq, hltD, hDl, hwi, hr, hr', hlt, hp0, p5, q5, q5', q4, z0, z2, z4, z5, m1, y3, y4, y6, y9, ByteArray.size_append] at hc); done))))) | (refine DW_ret ?_; simp [Tryz.results162, hnt, dNd, gu, gu', gq, hltD, hDl, hwi, hr, hr', hlt, hp0, p5, q5, q5', q4, z0, z2, z4, z5, m1, y3, y4, y6, y9, ByteArray.size_append]) | ((first | refine DW_exit ?_ | refine DW_skip ?_); simp [hnt, dNd, gu, gu', gq, hltD, hDl, hwi, hr, hr', hlt, hp0, p5, q5, q5', q4, z0, z2, z4, z5, m1, y3, y4, y6, y9, ByteArray.size_append]) | (intro hc; (try simp [hnt, dNd, gu, gu', gq, hltD, hDl, hwi, hr, hr', hlt, hp0, p5, q5, q5', q4, z0, z2, z4, z5, m1, y3, y4, y6, y9, ByteArray.size_append] at hc); (try (exfalso; omega))) | ((first | refine callP_mk (e1) ?_ | (refine callP_wk (e1) ?_ ?_; (· (simp; done)))); try simp [hnt, dNd, gu, gu', gq, hltD, hDl, hwi, hr, hr', hlt, hp0, p5, q5, q5', q4, z0, z2, z4, z5, m1, y3, y4, y6, y9, ByteArray.size_append]) | (refine ⟨?_, ?_⟩; · omega) | omega | apply_assumption -exfalso -symm | (exfalso; omega)))
     refine Again.mk ⟨i + 1, by omega⟩ (Sub.lit (by simp [hnx, hDm, q4])) (by simp; omega)
     exact go0 (aj1 e1) aj0 aj0
    ·have p5' : (u.x.k == 5) = false := by simpa using p5
     by_cases p4 : u.x.k = 4
     ·simp [p4, q5] at hpt
      subst hpt
      simp only [ByteArray.size_append, z4, z5] at y9
      (repeat (first | refine DW_seq fun K hK => ?_ | (refine DW_r anRY4162 Tryz.mixed (by kernel_rfl) ?_; simp [anRY4162, hnt, dNd, gu, gu', gq, hltD, hDl, hwi, hr, hr', hlt, hp0, p4, p5, p5', q5, q5', q4, z0, z2, z4, z5, m1, y3, y4, y6, y9, ByteArray.size_append]; try simp (disch := omega) only [wrap64_in]) | refine DW_block ?_ | (refine DW_if ?_ ?_ ?_; (· (simp [hnt, dNd, gu, gu', gq, hltD, hDl, hwi, hr, hr', hlt, hp0, p4, p5, p5', q5, q5', q4, z0, z2, z4, z5, m1, y3, y4, y6, y9, ByteArray.size_append]; done)); (try (rotate_left; (· (intro hc; (try simp [hnt, dNd, gu, gu', gq, hltD, hDl, hwi, hr, hr', hlt, hp0, p4, p5, p5', q5, q5', q4, z0, z2, z4, z5, m1, y3, y4, y6, y9, ByteArray.size_append] at hc); done))))) | (refine DW_ret ?_; simp [Tryz.results162, hnt, dNd, gu, gu', gq, hltD, hDl, hwi, hr, hr', hlt, hp0, p4, p5, p5', q5, q5', q4, z0, z2, z4, z5, m1, y3, y4, y6, y9, ByteArray.size_append]) | ((first | refine DW_exit ?_ | refine DW_skip ?_); simp [hnt, dNd, gu, gu', gq, hltD, hDl, hwi, hr, hr', hlt, hp0, p4, p5, p5', q5, q5', q4, z0, z2, z4, z5, m1, y3, y4, y6, y9, ByteArray.size_append]) | (intro hc; (try simp [hnt, dNd, gu, gu', gq, hltD, hDl, hwi, hr, hr', hlt, hp0, p4, p5, p5', q5, q5', q4, z0, z2, z4, z5, m1, y3, y4, y6, y9, ByteArray.size_append] at hc); (try (exfalso; omega))) | ((first | refine callP_mk (e1) ?_ | (refine callP_wk (e1) ?_ ?_; (· (simp; done)))); try simp [hnt, dNd, gu, gu', gq, hltD, hDl, hwi, hr, hr', hlt, hp0, p4, p5, p5', q5, q5', q4, z0, z2, z4, z5, m1, y3, y4, y6, y9, ByteArray.size_append]) | (refine ⟨?_, ?_⟩; · omega) | omega | apply_assumption -exfalso -symm | (exfalso; omega)))
      refine Again.mk ⟨i + 1, by omega⟩ (Sub.lit (by simp [hnx, hDm, q4])) (by simp; omega)
      exact go0 (aj1 e1) aj0 aj0
     ·have p4' : (u.x.k == 4) = false := by simpa using p4
      simp [p4, p5] at hpt
      subst hpt
      (repeat (first | refine DW_seq fun K hK => ?_ | (refine DW_r anRY4162 Tryz.mixed (by kernel_rfl) ?_; simp [anRY4162, hnt, dNd, gu, gu', gq, hltD, hDl, hwi, hr, hr', hlt, hp0, p4, p4', p5, p5', q5, q5', q4, z0, z2, z4, z5, m1, y3, y4, y6, y9, ByteArray.size_append]; try simp (disch := omega) only [wrap64_in]) | refine DW_block ?_ | (refine DW_if ?_ ?_ ?_; (· (simp [hnt, dNd, gu, gu', gq, hltD, hDl, hwi, hr, hr', hlt, hp0, p4, p4', p5, p5', q5, q5', q4, z0, z2, z4, z5, m1, y3, y4, y6, y9, ByteArray.size_append]; done)); (try (rotate_left; (· (intro hc; (try simp [hnt, dNd, gu, gu', gq, hltD, hDl, hwi, hr, hr', hlt, hp0, p4, p4', p5, p5', q5, q5', q4, z0, z2, z4, z5, m1, y3, y4, y6, y9, ByteArray.size_append] at hc); done))))) | (refine DW_ret ?_; simp [Tryz.results162, hnt, dNd, gu, gu', gq, hltD, hDl, hwi, hr, hr', hlt, hp0, p4, p4', p5, p5', q5, q5', q4, z0, z2, z4, z5, m1, y3, y4, y6, y9, ByteArray.size_append]) | ((first | refine DW_exit ?_ | refine DW_skip ?_); simp [hnt, dNd, gu, gu', gq, hltD, hDl, hwi, hr, hr', hlt, hp0, p4, p4', p5, p5', q5, q5', q4, z0, z2, z4, z5, m1, y3, y4, y6, y9, ByteArray.size_append]) | (intro hc; (try simp [hnt, dNd, gu, gu', gq, hltD, hDl, hwi, hr, hr', hlt, hp0, p4, p4', p5, p5', q5, q5', q4, z0, z2, z4, z5, m1, y3, y4, y6, y9, ByteArray.size_append] at hc); (try (exfalso; omega))) | ((first | refine callP_mk (e1) ?_ | (refine callP_wk (e1) ?_ ?_; (· (simp; done)))); try simp [hnt, dNd, gu, gu', gq, hltD, hDl, hwi, hr, hr', hlt, hp0, p4, p4', p5, p5', q5, q5', q4, z0, z2, z4, z5, m1, y3, y4, y6, y9, ByteArray.size_append]) | (refine ⟨?_, ?_⟩; · omega) | omega | apply_assumption -exfalso -symm | (exfalso; omega)))
      refine Again.mk ⟨i + 1, by omega⟩ (Sub.lit (by simp [hnx, hDm, q4])) (by simp; omega)
      exact go0 (aj1 e1) aj0 aj0
 ·have hkk : i = ks.length := by omega
  subst hkk
  have hac := hacs ks.length
  have hfin : (if x.k = 2 ∨ x.k = 3 then x.s else joinB (txtL x.k ks) (btw x.k) ++ sgn x.k) = accT x ks ks.length ++ sgn x.k := by
   by_cases k2 : x.k = 2 ∨ x.k = 3
   ·rw [if_pos k2, hlf k2, accT_zero]
    have : sgn x.k = ⟨#[]⟩ := by unfold sgn; rw [if_neg (by omega), if_neg (by omega), if_neg (by omega)]
    rw [this, str_app0r]
   ·rw [if_neg k2]
    unfold accT
    rw [if_neg (by have := hpos k1 k2; omega), List.take_length]
  rw [hfin] at hR
  clear hfin
  obtain ⟨a, ha⟩ : ∃ a, a = accT x ks ks.length := ⟨_, rfl⟩
  rw [← ha] at hac hR ⊢
  have y6 : a.size + 1 ≤ maxLen := by omega
  have y0 : a.size ≤ maxLen := by omega
  unfold sgn at hR
  by_cases j6 : x.k = 6
  ·rw [if_pos j6] at hR
   subst hR
   exact go0 aj0 aj0 (aj7 hDl j6 z6 y6 y0 m1 @ByteArray.size_append)
  ·have j6' : (x.k == 6) = false := by simpa using j6
   by_cases j7 : x.k = 7
   ·rw [if_neg j6, if_pos j7] at hR
    subst hR
    exact go0 aj0 aj0 (aj9 hDl j6 j6' j7 z7 y6 y0 m1 @ByteArray.size_append)
   ·have j7' : (x.k == 7) = false := by simpa using j7
    by_cases j8 : x.k = 8
    ·rw [if_neg j6, if_neg j7, if_pos j8] at hR
     subst hR
     exact go0 aj0 aj0 (aj11 hDl j6 j6' j7 j7' j8 z8 y6 y0 m1 @ByteArray.size_append)
    ·have j8' : (x.k == 8) = false := by simpa using j8
     rw [if_neg j6, if_neg j7, if_neg j8, str_app0r] at hR
     subst hR
     exact go0 aj0 aj0 (aj10 hDl j6 j6' j7 j7' j8 j8' y6 y0 m1)

def anRY4230 : Ann := ⟨[], []⟩
theorem bounds230_pure (t : RT) (ht : okT t = true) (hs : (flat t).length ≤ 1310720) : DPure Tryz.prog 230 [dNds (flat t)] (.int .i64 (boundI t)) := by
 refine DPure_introF [] (fn := Tryz.f230) Tryz.func230 rfl Tryz.call230 (by simp [Tryz.ntmps230]) (by simp [mx]) ?_
 intro hwf B hnt
 simp only [Tryz.ntmps230] at hnt
 have hA := an_is anRY4230 Tryz.mixed (aj2 @anRY4230.eq_1 Tryz.results230)
 clear hwf
 simp only [argS]
 have k1 := height169_pure _ t (flat t) 0 rfl (At.top ht) hs
 have k2 := textAt_pure _ t (flat t) 0 rfl (At.top ht) hs
 unfold boundI
 obtain ⟨T, hT⟩ : ∃ T, T = txtT t := ⟨_, rfl⟩
 rw [← hT] at k2 ⊢
 by_cases c1 : 16 < htT t
 ·have d1 : (16 : Int) < (htT t : Int) := by omega
  exact go0 (aj2 k1 k2) aj0 (aj2 c1 d1)
 ·have d1 : ¬ (16 : Int) < (htT t : Int) := by omega
  by_cases c2 : 2048 < T.size
  ·have d2 : (2048 : Int) < (T.size : Int) := by omega
   exact go0 (aj2 k1 k2) aj0 (aj4 c1 d1 c2 d2)
  ·have d2 : ¬ (2048 : Int) < (T.size : Int) := by omega
   exact go0 (aj2 k1 k2) aj0 (aj4 c1 d1 c2 d2)
def anRY4145 : Ann := ⟨[], []⟩
theorem rcheck145_tree (t : RT) (ht : okT t = true) (h : (flat t).length ≤ 2048) : DPure Tryz.prog 145 [dNds (flat t)] (.int .i64 (boundI t)) := by
 refine DPure_introF [] (fn := Tryz.f145) Tryz.func145 rfl Tryz.call145 (by simp [Tryz.ntmps145]) (by simp [mx]) ?_
 intro hwf B hnt
 simp only [Tryz.ntmps145] at hnt
 have hA := an_is anRY4145 Tryz.mixed (aj2 @anRY4145.eq_1 Tryz.results145)
 clear hwf
 simp only [argS]
 have k1 := isTree135_pure (flat t) (by omega)
 rw [tree_whole ht] at k1
 have k2 := bounds230_pure t ht (by omega)
 have d1 : ¬ (2048 : Int) < ((flat t).length : Int) := by omega
 have d2 : ¬ 2048 < (flat t).length := by omega
 exact go0 (aj2 k1 k2) aj0 (aj2 d1 d2)
theorem rcheck145_long (l : List Nd) (h : 2048 < l.length) : DPure Tryz.prog 145 [dNds l] (.int .i64 3) := by
 refine DPure_introF [] (fn := Tryz.f145) Tryz.func145 rfl Tryz.call145 (by simp [Tryz.ntmps145]) (by simp [mx]) ?_
 intro hwf B hnt
 simp only [Tryz.ntmps145] at hnt
 have hA := an_is anRY4145 Tryz.mixed (aj2 @anRY4145.eq_1 Tryz.results145)
 clear hwf
 simp only [argS]
 have d1 : (2048 : Int) < (l.length : Int) := by omega
 exact go0 aj0 aj0 (aj2 d1 h)
theorem rcheck145_bad (l : List Nd) (h : l.length ≤ 2048) (hw : wholeB l = false) : DPure Tryz.prog 145 [dNds l] (.int .i64 170) := by
 refine DPure_introF [] (fn := Tryz.f145) Tryz.func145 rfl Tryz.call145 (by simp [Tryz.ntmps145]) (by simp [mx]) ?_
 intro hwf B hnt
 simp only [Tryz.ntmps145] at hnt
 have hA := an_is anRY4145 Tryz.mixed (aj2 @anRY4145.eq_1 Tryz.results145)
 clear hwf
 simp only [argS]
 have k1 := isTree135_pure l (by omega)
 rw [hw] at k1
 have d1 : ¬ (2048 : Int) < (l.length : Int) := by omega
 have d2 : ¬ 2048 < l.length := by omega
 exact go0 (aj1 k1) aj0 (aj2 d1 d2)
def anRY4161 : Ann := ⟨[], []⟩
theorem rheight161_tree (t : RT) (ht : okT t = true) (hs : (flat t).length ≤ 1310720) : DPure Tryz.prog 161 [dNds (flat t)] (.int .i64 (htT t)) := by
 refine DPure_introF [] (fn := Tryz.f161) Tryz.func161 rfl Tryz.call161 (by simp [Tryz.ntmps161]) (by simp [mx]) ?_
 intro hwf B hnt
 simp only [Tryz.ntmps161] at hnt
 have hA := an_is anRY4161 Tryz.mixed (aj2 @anRY4161.eq_1 Tryz.results161)
 clear hwf
 simp only [argS]
 have k1 := isTree135_pure (flat t) hs
 rw [tree_whole ht] at k1
 have k2 := height169_pure _ t (flat t) 0 rfl (At.top ht) hs
 exact go0 (aj2 k1 k2) aj0 aj0

def natD (n : Nat) : List DVal := [.int .i64 (n : Int)]
@[simp] theorem mx_natD (n : Nat) : mxL (natD n) = 0 := by simp [natD, mxL, mx]
abbrev dNats (l : List Nat) : DVal := .sl 1 8 (l.map natD)
@[simp] theorem mx_nats (l : List Nat) : mxR (l.map natD) = 0 := mxR0 _ mx_natD l
theorem plN_le (l : List Nd) (n : Nat) : (plN l n).length ≤ n := by unfold plN; exact Nat.le_trans (List.length_filter_le _ _) (by simp)
def anRY480 : Ann := ⟨[], []⟩
set_option maxHeartbeats 1000000 in
theorem places80_pure (l : List Nd) : DPure Tryz.prog 80 [dNds l] (dNats (plN l l.length)) := by
 refine DPure_introF [50] (fn := Tryz.f80) Tryz.func80 rfl Tryz.call80 (by simp [Tryz.ntmps80]) (by simp [mx]) ?_
 intro hwf B hnt
 simp only [Tryz.ntmps80] at hnt
 have hA := an_is anRY480 Tryz.mixed (aj2 @anRY480.eq_1 Tryz.results80)
 have hs : l.length * 32 ≤ 150000000000000 := by have := hwf.1; simp only [wfD, List.length_map] at this; exact this.1
 clear hwf
 simp only [argS]
 (refine go1 aj0 aj0 aj0 ?_; intros; refine mk_i ?_)
 refine DW_adoptS 3 50 3 1 8 (by simp [hnt, Tryz.results80, anRY480]) (fun n => ?_)
 refine DW_loop (X := {i : Nat // i ≤ l.length}) (fun i => ⟨[(0, dNds l), (3, .osl 50 1), (4, .int .i64 i.1)], [⟨50, 1, .row 3 1 8 ((plN l i.1).map natD)⟩]⟩) (fun i => l.length - i.1) ⟨0, by omega⟩ (Sub.lit (by simp [plN_zero])) ?_
 rintro ⟨i, hi⟩
 simp only
 by_cases hlt : i < l.length
 ·obtain ⟨x, hx, hx', _⟩ := at_lt' hlt
  have hsc := plN_succ hx
  have hle := plN_le l i
  obtain ⟨T, hT⟩ : ∃ T, T = plN l i := ⟨_, rfl⟩
  rw [← hT] at hsc hle ⊢
  have z1 : (T.length + 1) * 8 ≤ 150000000000000 := by omega
  have z2 : T.length + 1 ≤ 9223372036854775807 := by omega
  by_cases ho : isOcc x = true
  ·rw [if_pos ho] at hsc
   have hd : (T.map natD) ++ [[.int .i64 (i : Int)]] = (plN l (i + 1)).map natD := by rw [hsc, List.map_append]; rfl
   rcases isOcc_iff.1 ho with k | k
   ·(refine go1 aj0 aj0 (aj7 @dNd.eq_1 hlt hx hx' k z1 z2) ?_; intros; refine mk_i ?_)
    refine Again.mk ⟨i + 1, by omega⟩ (Sub.lit (by simp [hd])) (by simp; omega)
    skip
   ·(refine go1 aj0 aj0 (aj7 @dNd.eq_1 hlt hx hx' k z1 z2) ?_; intros; refine mk_i ?_)
    refine Again.mk ⟨i + 1, by omega⟩ (Sub.lit (by simp [hd])) (by simp; omega)
    skip
  ·rw [if_neg ho, List.append_nil] at hsc
   have k2 : ¬ x.k = 2 := fun e => ho (isOcc_iff.2 (.inl e))
   have k3 : ¬ x.k = 3 := fun e => ho (isOcc_iff.2 (.inr e))
   have k2' : (x.k == 2) = false := by simpa using k2
   have k3' : (x.k == 3) = false := by simpa using k3
   (refine go1 aj0 aj0 (aj8 @dNd.eq_1 hlt hx hx' k2 k2' k3 k3') ?_; intros; refine mk_i ?_)
   refine Again.mk ⟨i + 1, by omega⟩ (Sub.lit (by simp [hsc])) (by simp; omega)
   skip
 ·have hkk : i = l.length := by omega
  subst hkk
  exact go0 aj0 aj0 aj0
def anRY4146 : Ann := ⟨[], []⟩
theorem rocc146_pure (l : List Nd) : DPure Tryz.prog 146 [dNds l] (.int .i64 (occN l)) := by
 refine DPure_introF [] (fn := Tryz.f146) Tryz.func146 rfl Tryz.call146 (by simp [Tryz.ntmps146]) (by simp [mx]) ?_
 intro hwf B hnt
 simp only [Tryz.ntmps146] at hnt
 have hA := an_is anRY4146 Tryz.mixed (aj2 @anRY4146.eq_1 Tryz.results146)
 clear hwf
 simp only [argS]
 have k1 := places80_pure l
 have h1 : (plN l l.length).length = occN l := by rw [plN_len (Nat.le_refl _), occN_lvs, rkN_all]
 exact go0 (aj1 k1) aj0 (aj1 h1)
end Go.Proofs.YtdgocjbakjamaaaGreat
end

section
set_option linter.unusedSectionVars false
/- Edges and ways in order, each once: plain Lean. -/


set_option linter.unusedSimpArgs false
set_option linter.unusedVariables false
namespace Go.Proofs.YtdgocjbakjamaaaGreat
open Go Go.Dm
variable [DMode]

theorem ordS : OrdC sCmp := by
 refine ⟨fun _ _ => sCmp_zero, fun x y => ?_, fun x y z h1 h2 => ?_⟩
 ·rw [sCmp_neg]
  unfold sCmp
  cases h1 : sLess x y
  ·cases h2 : sLess y x <;> simp
  ·rw [sLess_asym h1]; simp
 ·rw [sCmp_neg] at *; exact sLess_trans h1 h2
end Go.Proofs.YtdgocjbakjamaaaGreat
end

section
set_option linter.unusedSectionVars false
/- regex.Check at one node: height, text, bounded, Check -/


set_option linter.unusedSimpArgs false
set_option linter.unusedVariables false
namespace Go.Proofs.YtdgocjbakjamaaaGreat
open Go Go.Dm
variable [DMode]
attribute [local irreducible] DW callP callS
set_option maxRecDepth 100000

def anWR2206 : Ann := ⟨[], [⟨5, [6], [], []⟩, ⟨7, [22], [], []⟩]⟩
theorem height184_pure (k : Int) (s : ByteArray) : DPure Tryz.prog 206 [.sl 3 32 [dNode k s 0]] (.int .i64 1) := by
 refine DPure_introF [] (fn := Tryz.f206) Tryz.func206 rfl Tryz.call206 (by simp [Tryz.ntmps206]) (by simp [mx]) ?_
 intro hwf B hnt
 simp only [Tryz.ntmps206] at hnt
 have hA := an_is anWR2206 Tryz.mixed (aj2 @anWR2206.eq_1 Tryz.results206)
 clear hwf
 simp only [argS]
 (refine go1 aj0 aj0 (aj1 @dNode.eq_1) ?_; intros; refine mk_i ?_)
 refine DW_loop (X := Bool) (fun x => ⟨[(0, .sl 3 32 [dNode k s 0]), (3, .int .i64 (if x then 1 else 0)), (4, if x then .sl 1 8 [] else .nilsl), (7, .sl 3 32 [dNode k s 0]), (8, .int .i64 1), (9, .int .i64 (if x then 1 else 0))], []⟩) (fun x => if x then 0 else 1) false (Sub.lit (by simp [dNode])) ?_
 rintro (_ | _)
 ·(refine go1 aj0 aj0 (aj1 @dNode.eq_1) ?_; intros; refine mk_i ?_)
  refine DW_loop (X := Bool) (fun x => ⟨[(0, .sl 3 32 [dNode k s 0]), (3, .int .i64 1), (4, if x then .sl 1 8 [] else .sl 1 8 [[.int .i64 0]]), (7, .sl 3 32 [dNode k s 0]), (8, .int .i64 1), (9, .int .i64 0)], []⟩) (fun x => if x then 0 else 1) false (Sub.lit (by simp [dNode])) ?_
  rintro (_ | _)
  ·(refine go1 aj0 aj0 (aj1 @dNode.eq_1) ?_; intros; refine mk_i ?_)
   simp [hnt, Tryz.results206, anWR2206, dNode]
   (refine go1 aj0 aj0 (aj1 @dNode.eq_1) ?_; intros; refine mk_i ?_)
   refine Again.mk true (Sub.lit (by simp [dNode])) (by simp)
   skip
  ·(refine go1 aj0 aj0 (aj1 @dNode.eq_1) ?_; intros; refine mk_i ?_)
   refine Again.mk true (Sub.lit (by simp [dNode])) (by simp)
   skip
 ·exact go0 aj0 aj0 (aj1 @dNode.eq_1)
def anWR2207 : Ann := ⟨[], [⟨1, [3], [], []⟩]⟩
theorem text185_pure (k : Int) (hk : k = 2 ∨ k = 3) (s : ByteArray) : DPure Tryz.prog 207 [.sl 3 32 [dNode k s 0]] (.str s) := by
 refine DPure_introF [] (fn := Tryz.f207) Tryz.func207 rfl Tryz.call207 (by simp [Tryz.ntmps207]) (by simp [mx]) ?_
 intro hwf B hnt
 simp only [Tryz.ntmps207] at hnt
 have hA := an_is anWR2207 Tryz.mixed (aj2 @anWR2207.eq_1 Tryz.results207)
 clear hwf
 simp only [argS]
 rcases hk with rfl | rfl
 ·exact go0 aj0 aj0 (aj1 @dNode.eq_1)
 ·exact go0 aj0 aj0 (aj1 @dNode.eq_1)
def anWR2134 : Ann := ⟨[], []⟩
theorem bounded152_pure (k : Int) (hk : k = 2 ∨ k = 3) (s : ByteArray) (hs : s.size ≤ 16) : DPure Tryz.prog 134 [.sl 3 32 [dNode k s 0]] (.int .i64 0) := by
 refine DPure_introF [] (fn := Tryz.f134) Tryz.func134 rfl Tryz.call134 (by simp [Tryz.ntmps134]) (by simp [mx]) ?_
 intro hwf B hnt
 simp only [Tryz.ntmps134] at hnt
 have hA := an_is anWR2134 Tryz.mixed (aj2 @anWR2134.eq_1 Tryz.results134)
 clear hwf
 simp only [argS]
 have e1 := height184_pure k s
 have e2 := text185_pure k hk s
 have g1 : ¬ (2048 : Int) < s.size := by omega
 exact go0 (aj2 e1 e2) aj0 (aj1 g1)
theorem txt_size {k : Int} {s : ByteArray} (h : txtOK k s = true) : s.size ≤ 16 := by
 unfold txtOK at h
 split at h <;> (simp only [nameOK, Bool.and_eq_true, decide_eq_true_eq] at h; exact h.1.1.2)
def anWR267 : Ann := ⟨[], []⟩
theorem check112_pure (k : Int) (hk : k = 2 ∨ k = 3) (s : ByteArray) : DPure Tryz.prog 67 [.sl 3 32 [dNode k s 0]] (.int .i64 (if txtOK k s then 0 else 170)) := by
 refine DPure_introF [] (fn := Tryz.f67) Tryz.func67 rfl Tryz.call67 (by simp [Tryz.ntmps67]) (by simp [mx]) ?_
 intro hwf B hnt
 simp only [Tryz.ntmps67] at hnt
 have hA := an_is anWR267 Tryz.mixed (aj2 @anWR267.eq_1 Tryz.results67)
 clear hwf
 simp only [argS]
 have e1 := whole151_pure k hk s
 cases hT : txtOK k s
 ·rw [hT] at e1
  exact go0 (aj1 e1) aj0 aj0
 ·rw [hT] at e1
  have e2 := bounded152_pure k hk s (txt_size hT)
  exact go0 (aj2 e1 e2) aj0 aj0
end Go.Proofs.YtdgocjbakjamaaaGreat
end

section
set_option linter.unusedSectionVars false
/- names that are told apart: Name, Place, unlike, Unlike -/




set_option linter.unusedSimpArgs false
set_option linter.unusedVariables false
namespace Go.Proofs.YtdgocjbakjamaaaGreat
open Go Go.Dm
variable [DMode]
attribute [local irreducible] DW callP callS
set_option maxRecDepth 100000

def anWR3276 : Ann := ⟨[], []⟩
theorem place114_pure (l : List ByteArray) (s : ByteArray) : DPure Tryz.prog 276 [dStrs l, .str s] (.int .i64 (placeS l s)) := by
 refine DPure_introF [] (fn := Tryz.f276) Tryz.func276 rfl Tryz.call276 (by simp [Tryz.ntmps276]) (by simp [mx]) ?_
 intro hwf B hnt
 simp only [Tryz.ntmps276] at hnt
 have hA := an_is anWR3276 Tryz.mixed (aj2 @anWR3276.eq_1 Tryz.results276)
 have hlen := len_strs hwf.1
 clear hwf
 simp only [argS]
 obtain ⟨R, hR⟩ : ∃ R, R = placeS l s := ⟨_, rfl⟩
 rw [← hR]
 (refine go1 aj0 aj0 aj0 ?_; intros; refine mk_i ?_)
 refine DW_loop (X := {k : Nat // k ≤ l.length ∧ ∀ i x, i < k → l[i]? = some x → (s == x) = false}) (fun x => ⟨[(0, dStrs l), (1, .str s), (5, .int .i64 x.1)], []⟩) (fun x => l.length - x.1) ⟨0, by simp⟩ (Sub.lit (by simp)) ?_
 rintro ⟨k, hk, hno⟩
 by_cases hlt : k < l.length
 ·obtain ⟨x, hx, hx', hxm⟩ := at_lt' hlt
  cases hb : s == x
  ·have hb' : (x == s) = false := by rw [Bool.eq_false_iff] at hb ⊢; simp at hb ⊢; exact fun h => hb h.symm
   (refine go1 aj0 aj0 (aj5 @dStr.eq_1 hlt hx' hx hb') ?_; intros; refine mk_i ?_)
   exact Again.mk ⟨k + 1, by omega, hno_next hx hb hno⟩ (Sub.lit (by simp [])) (by simp; omega)
   skip
  ·have hb' : (x == s) = true := by simp at hb ⊢; exact hb.symm
   have hRk : R = k := by rw [hR]; exact placeS_some hlt (by rw [hx']; exact (by simpa using hb : s = x).symm) hno
   subst hRk
   exact go0 aj0 aj0 (aj5 @dStr.eq_1 hlt hx' hx hb')
 ·have hkk : k = l.length := by omega
  subst hkk
  have hRk : R = -1 := by rw [hR]; exact placeS_none hno
  subst hRk
  exact go0 aj0 aj0 aj0

end Go.Proofs.YtdgocjbakjamaaaGreat
end

