/- Parts of a proof, laid together: BN4, SY0, WB14, BN2, BN5, BN6, BN7, SY1, EnSi, BO1, BO2, BO5, BO3. -/
import Derived.Shelf.SlIter.Nil
import Derived.Shelf.SlIter.Sorted
import Derived.Shelf.SortM.Plain
import Derived.Shelf.SortM.SortNone
import Derived.Shelf.Sort.Plain
import Derived.Shelf.Slices.In.SortNone
import Derived.Shelf.Spec.SlicesGrow
import Derived.Test.YtdgocjbakjamaaaGreatqRs5
import Derived.Test.YtdgocjbakjamaaaGreatqRs6
import Derived.Test.YtdgocjbakjamaaaGreatqRs7
set_option linter.unusedSimpArgs false
set_option linter.unusedVariables false
set_option linter.unusedSectionVars false
section
namespace Go.Proofs.YtdgocjbakjamaaaGreat
open Go Go.Dm
variable [DMode]
attribute [local irreducible] DW callP callS
set_option maxRecDepth 100000
def SmlG (g : List Rul) : Prop := ∀ r ∈ g, r.b.length ≤ 1310720
theorem names_le {k : Int} : ∀ {g : List Rul}, SmlG g → (namesK k g).length ≤ g.length * 1310720
 | [], _ => by simp [namesK]
 | r :: g, h => by
  have h1 := h r List.mem_cons_self
  have h2 := names_le (k := k) (g := g) fun x hx => h x (List.mem_cons_of_mem _ hx)
  have h3 := namesN_len k r.b
  have h4 : namesK k (r :: g) = namesN k r.b ++ namesK k g := by simp [namesK]
  rw [h4, List.length_append, List.length_cons]
  omega
theorem occN_le (l : List Nd) : occN l ≤ l.length := by rw [occN_lvs]; exact List.length_filter_le _ _
theorem occG_le : ∀ {g : List Rul}, SmlG g → occG g ≤ g.length * 1310720
 | [], _ => by simp [occG]
 | r :: g, h => by
  have h1 := h r List.mem_cons_self
  have h2 := occG_le (g := g) fun x hx => h x (List.mem_cons_of_mem _ hx)
  have h3 := occN_le r.b
  have h4 : occG (r :: g) = occN r.b + occG g := by simp [occG]
  rw [h4, List.length_cons]
  omega
theorem occG_take {g : List Rul} {i : Nat} {r : Rul} (h : g[i]? = some r) : occG (g.take (i + 1)) = occG (g.take i) + occN r.b := by
 unfold occG
 rw [List.take_add_one, h]
 simp
theorem occG_take_le (g : List Rul) (i : Nat) : occG (g.take i) ≤ occG g := by
 have h : occG g = occG (g.take i) + occG (g.drop i) := by
  unfold occG
  rw [← List.sum_append, ← List.map_append, List.take_append_drop]
 omega
theorem name159_pure (s : ByteArray) : DPure Tryz.prog 159 [.str s, .int .u8 85] (.bool (txtOK 2 s)) := rname113_pure 2 85 (.inl ⟨rfl, rfl⟩) s
def anBN4107 : Ann := ⟨[], []⟩
set_option maxHeartbeats 1000000 in
theorem trees107_pure (g : List Rul) (hs : SmlG g) : DPure Tryz.prog 107 [dRuls g] (.bool (treesB g)) := by
 refine DPure_introF [] (fn := Tryz.f107) Tryz.func107 rfl Tryz.call107 (by simp [Tryz.ntmps107]) (by simp [mx]) ?_
 intro hwf B hnt
 simp only [Tryz.ntmps107] at hnt
 have hA := an_is anBN4107 Tryz.mixed (aj2 @anBN4107.eq_1 Tryz.results107)
 have hwl := len_ruls hwf.1
 clear hwf
 simp only [argS]
 obtain ⟨R, hR⟩ : ∃ R, R = treesB g := ⟨_, rfl⟩
 rw [← hR]
 (refine go1 aj0 aj0 aj0 ?_; intros; refine mk_i ?_)
 refine DW_loop (X := {i : Nat // i ≤ g.length ∧ R = treesB (g.drop i)}) (fun i => ⟨[(0, dRuls g), (3, .int .i64 i.1)], []⟩) (fun i => g.length - i.1) ⟨0, by simp [hR]⟩ (Sub.lit (by simp)) ?_
 clear hR
 rintro ⟨i, hi, hR⟩
 simp only
 by_cases hlt : i < g.length
 ·obtain ⟨r, hr, hr', hrm⟩ := at_lt' hlt
  rw [List.drop_eq_getElem_cons hlt, hr'] at hR
  unfold treesB at hR
  rw [List.all_cons] at hR
  have e1 := name159_pure r.h
  have e2 := isTree135_pure r.b (hs r hrm)
  have w2 : IntKind.i64.wrap ((i : Int) + 1) = (i : Int) + 1 := wrap64_in (by omega) (by omega)
  cases h1 : txtOK 2 r.h
  ·rw [h1] at e1 hR
   simp only [Bool.false_and] at hR
   subst hR
   exact go0 (aj1 e1) aj0 (aj4 @dRul.eq_1 hlt hr hr')
  ·cases h2 : wholeB r.b
   ·rw [h2] at e2 hR
    rw [h1] at e1 hR
    simp only [Bool.false_and, Bool.and_false] at hR
    subst hR
    exact go0 (aj2 e1 e2) aj0 (aj4 @dRul.eq_1 hlt hr hr')
   ·rw [h2] at e2 hR
    rw [h1] at e1 hR
    simp only [Bool.true_and] at hR
    (refine go1 (aj2 e1 e2) aj0 (aj5 @dRul.eq_1 hlt hr hr' w2) ?_; intros; refine mk_i ?_)
    refine Again.mk ⟨i + 1, by omega, hR⟩ (Sub.lit (by simp)) (by simp; omega)
    skip
 ·have hkk : i = g.length := by omega
  subst hkk
  rw [List.drop_length] at hR
  have hR2 : R = true := hR
  subst hR2
  exact go0 aj0 aj0 aj0
def anBN4109 : Ann := ⟨[], []⟩
theorem rocc109_pure (g : List Rul) (hs : SmlG g) (hl : g.length ≤ 64) : DPure Tryz.prog 109 [dRuls g] (.int .i64 (occG g)) := by
 refine DPure_introF [] (fn := Tryz.f109) Tryz.func109 rfl Tryz.call109 (by simp [Tryz.ntmps109]) (by simp [mx]) ?_
 intro hwf B hnt
 simp only [Tryz.ntmps109] at hnt
 have hA := an_is anBN4109 Tryz.mixed (aj2 @anBN4109.eq_1 Tryz.results109)
 clear hwf
 simp only [argS]
 have ho := occG_le hs
 (refine go1 aj0 aj0 aj0 ?_; intros; refine mk_i ?_)
 refine DW_loop (X := {i : Nat // i ≤ g.length}) (fun i => ⟨[(0, dRuls g), (3, .int .i64 (occG (g.take i.1))), (4, .int .i64 i.1)], []⟩) (fun i => g.length - i.1) ⟨0, by omega⟩ (Sub.lit (by simp [occG])) ?_
 rintro ⟨i, hi⟩
 simp only
 by_cases hlt : i < g.length
 ·obtain ⟨r, hr, hr', hrm⟩ := at_lt' hlt
  have e1 := rocc146_pure r.b
  have h1 := occG_take hr
  have h2 := occG_take_le g (i + 1)
  have h3 := occN_le r.b
  have w1 : IntKind.i64.wrap ((occG (g.take i) : Int) + (occN r.b : Int)) = (occG (g.take (i + 1)) : Int) := by rw [wrap64_in (by omega) (by omega)]; omega
  have w2 : IntKind.i64.wrap ((i : Int) + 1) = (i : Int) + 1 := wrap64_in (by omega) (by omega)
  (refine go1 (aj1 e1) aj0 (aj6 @dRul.eq_1 hlt hr hr' w1 w2) ?_; intros; refine mk_i ?_)
  refine Again.mk ⟨i + 1, by omega⟩ (Sub.lit (by simp)) (by simp; omega)
  skip
 ·have hkk : i = g.length := by omega
  subst hkk
  rw [List.take_length]
  exact go0 aj0 aj0 aj0
theorem mkG_at {gt : GT} {i : Nat} {p : ByteArray × RT} (h : gt[i]? = some p) : (mkG gt)[i]? = some ⟨p.1, flat p.2⟩ := by unfold mkG; rw [List.getElem?_map, h]; rfl
theorem mkG_len (gt : GT) : (mkG gt).length = gt.length := by unfold mkG; rw [List.length_map]
theorem small_gt {gt : GT} (h : SmlG (mkG gt)) {p : ByteArray × RT} (hp : p ∈ gt) : (flat p.2).length ≤ 1310720 := h ⟨p.1, flat p.2⟩ (List.mem_map.2 ⟨p, hp, rfl⟩)
def anBN4110 : Ann := ⟨[], []⟩
theorem rdeep110_pure (gt : GT) (hk : OkG gt) (hs : SmlG (mkG gt)) (hl : gt.length ≤ 64) : DPure Tryz.prog 110 [dRuls (mkG gt)] (.bool (deepG gt)) := by
 refine DPure_introF [] (fn := Tryz.f110) Tryz.func110 rfl Tryz.call110 (by simp [Tryz.ntmps110]) (by simp [mx]) ?_
 intro hwf B hnt
 simp only [Tryz.ntmps110] at hnt
 have hA := an_is anBN4110 Tryz.mixed (aj2 @anBN4110.eq_1 Tryz.results110)
 clear hwf
 simp only [argS]
 have hml := mkG_len gt
 have hat := fun i p => mkG_at (gt := gt) (i := i) (p := p)
 have hsm := fun p => small_gt hs (p := p)
 obtain ⟨g, hg⟩ : ∃ g, g = mkG gt := ⟨_, rfl⟩
 rw [← hg] at hml hat ⊢
 obtain ⟨R, hR⟩ : ∃ R, R = deepG gt := ⟨_, rfl⟩
 rw [← hR]
 clear hs hg
 (refine go1 aj0 aj0 aj0 ?_; intros; refine mk_i ?_)
 refine DW_loop (X := {i : Nat // i ≤ gt.length ∧ R = deepG (gt.drop i)}) (fun i => ⟨[(0, dRuls g), (3, .int .i64 i.1)], []⟩) (fun i => gt.length - i.1) ⟨0, by simp [hR]⟩ (Sub.lit (by simp)) ?_
 clear hR
 rintro ⟨i, hi, hR⟩
 simp only
 by_cases hlt : i < gt.length
 ·obtain ⟨p, hp, hp', hpm⟩ := at_lt' hlt
  rw [List.drop_eq_getElem_cons hlt, hp'] at hR
  unfold deepG at hR
  rw [List.any_cons] at hR
  have hr := hat i p hp
  have hlt2 : i < g.length := by omega
  have hr' : g[i]'hlt2 = ⟨p.1, flat p.2⟩ := (List.getElem?_eq_some_iff.1 hr).2
  have e1 := rheight161_tree p.2 (hk p hpm).2 (hsm p hpm)
  have w2 : IntKind.i64.wrap ((i : Int) + 1) = (i : Int) + 1 := wrap64_in (by omega) (by omega)
  obtain ⟨b, hb⟩ : ∃ b, b = flat p.2 := ⟨_, rfl⟩
  rw [← hb] at hr hr' e1
  by_cases hd : 16 < htT p.2
  ·have hd' : (16 : Int) < (htT p.2 : Int) := by omega
   rw [decide_eq_true hd, Bool.true_or] at hR
   subst hR
   exact go0 (aj1 e1) aj0 (aj7 @dRul.eq_1 hlt hlt2 hr hr' hd hd')
  ·have hd' : ¬ (16 : Int) < (htT p.2 : Int) := by omega
   rw [decide_eq_false hd, Bool.false_or] at hR
   (refine go1 (aj1 e1) aj0 (aj8 @dRul.eq_1 hlt hlt2 hr hr' hd hd' w2) ?_; intros; refine mk_i ?_)
   refine Again.mk ⟨i + 1, by omega, hR⟩ (Sub.lit (by simp)) (by simp; omega)
   skip
 ·have hkk : i = gt.length := by omega
  subst hkk
  rw [List.drop_length] at hR
  have hR2 : R = false := hR
  subst hR2
  exact go0 aj0 aj0 (aj1 hml)
theorem txtOK_size {k : Int} {s : ByteArray} (h : txtOK k s = true) : s.size ≤ 16 := by
 unfold txtOK nameOK at h
 split at h <;> simp only [Bool.and_eq_true, decide_eq_true_eq] at h <;> exact h.1.1.2
theorem ruleT_size {gt : GT} {p : ByteArray × RT} (hk : OkG gt) (hs : SmlG (mkG gt)) (hp : p ∈ gt) : (ruleT p).size ≤ 31457310 := by
 have h1 := txtOK_size (hk p hp).1
 have h2 := (txt_sizeT p.2 (hk p hp).2).2
 have h3 := small_gt hs hp
 unfold ruleT
 simp only [ByteArray.size_append]
 have z3 : (⟨#[32, 61, 32]⟩ : ByteArray).size = 3 := rfl
 have z4 : (⟨#[32, 59, 10]⟩ : ByteArray).size = 3 := rfl
 omega
theorem textG_size {gt : GT} (hk : OkG gt) (hs : SmlG (mkG gt)) : ∀ i, i ≤ gt.length → (textG (gt.take i)).size ≤ i * 31457310
 | 0, _ => by simp [textG]; decide
 | i + 1, h => by
  have hx : gt[i]? = some (gt[i]'(by omega)) := List.getElem?_eq_getElem (by omega)
  have ih := textG_size hk hs i (by omega)
  have h1 := ruleT_size hk hs (List.getElem_mem (show i < gt.length by omega))
  rw [textG_take hx, ByteArray.size_append]
  omega
def anBN4111 : Ann := ⟨[], []⟩
set_option maxHeartbeats 1000000 in
theorem rtext111_pure (gt : GT) (hk : OkG gt) (hs : SmlG (mkG gt)) (hl : gt.length ≤ 64) : DPure Tryz.prog 111 [dRuls (mkG gt)] (.str (textG gt)) := by
 refine DPure_introF [] (fn := Tryz.f111) Tryz.func111 rfl Tryz.call111 (by simp [Tryz.ntmps111]) (by simp [mx]) ?_
 intro hwf B hnt
 simp only [Tryz.ntmps111] at hnt
 have hA := an_is anBN4111 Tryz.mixed (aj2 @anBN4111.eq_1 Tryz.results111)
 clear hwf
 simp only [argS]
 have hml := mkG_len gt
 have hat := fun i p => mkG_at (gt := gt) (i := i) (p := p)
 have hsm := fun p => small_gt hs (p := p)
 have hts := textG_size hk hs
 obtain ⟨g, hg⟩ : ∃ g, g = mkG gt := ⟨_, rfl⟩
 rw [← hg] at hml hat ⊢
 clear hs hg
 have z0 : (⟨#[]⟩ : ByteArray).size = 0 := rfl
 have z3 : (⟨#[32, 61, 32]⟩ : ByteArray).size = 3 := rfl
 have z4 : (⟨#[32, 59, 10]⟩ : ByteArray).size = 3 := rfl
 have m3 : 3 ≤ maxLen := by decide
 have mbig : 3000000000 ≤ maxLen := by decide
 (refine go1 aj0 aj0 (aj1 z0) ?_; intros; refine mk_i ?_)
 refine DW_loop (X := {i : Nat // i ≤ gt.length}) (fun i => ⟨[(0, dRuls g), (3, .str (textG (gt.take i.1))), (4, .int .i64 i.1)], []⟩) (fun i => gt.length - i.1) ⟨0, by omega⟩ (Sub.lit (by simp [textG])) ?_
 rintro ⟨i, hi⟩
 simp only
 by_cases hlt : i < gt.length
 ·obtain ⟨p, hp, hp', hpm⟩ := at_lt' hlt
  have hr := hat i p hp
  have hlt2 : i < g.length := by omega
  have hr' : g[i]'hlt2 = ⟨p.1, flat p.2⟩ := (List.getElem?_eq_some_iff.1 hr).2
  have e1 := textAt_pure _ p.2 (flat p.2) 0 rfl (At.top (hk p hpm).2) (hsm p hpm)
  have w2 : IntKind.i64.wrap ((i : Int) + 1) = (i : Int) + 1 := wrap64_in (by omega) (by omega)
  have h1 := hts (i + 1) (by omega)
  have hnx := textG_take hp
  rw [hnx] at h1
  unfold ruleT at h1 hnx
  simp only [ByteArray.size_append, z3, z4] at h1
  obtain ⟨b, hb⟩ : ∃ b, b = flat p.2 := ⟨_, rfl⟩
  rw [← hb] at hr hr' e1
  obtain ⟨s, hs⟩ : ∃ s, s = txtT p.2 := ⟨_, rfl⟩
  rw [← hs] at e1 h1 hnx
  obtain ⟨a, ha⟩ : ∃ a, a = textG (gt.take i) := ⟨_, rfl⟩
  rw [← ha] at hnx h1 ⊢
  have y1 : a.size + p.1.size ≤ maxLen := by omega
  have y2 : a.size + p.1.size + 3 ≤ maxLen := by omega
  have y3 : a.size + p.1.size + 3 + s.size ≤ maxLen := by omega
  have y4 : a.size + p.1.size + 3 + s.size + 3 ≤ maxLen := by omega
  have hq : a ++ p.1 ++ ⟨#[32, 61, 32]⟩ ++ s ++ ⟨#[32, 59, 10]⟩ = textG (gt.take (i + 1)) := by rw [hnx]; simp only [ByteArray.append_assoc]
  (refine go1 (aj1 e1) aj0 (aj14 @dRul.eq_1 hlt hlt2 hr hr' z3 z4 m3 y1 y2 y3 y4 @ByteArray.size_append w2) ?_; intros; refine mk_i ?_)
  refine Again.mk ⟨i + 1, by omega⟩ (Sub.lit (by simp [hq])) (by simp; omega)
  skip
 ·have hkk : i = gt.length := by omega
  subst hkk
  rw [List.take_length]
  exact go0 aj0 aj0 (aj1 hml)
def anBN448 : Ann := ⟨[], []⟩
theorem rcheck48_count (g : List Rul) (h : g.length < 1 ∨ 64 < g.length) : DPure Tryz.prog 48 [dRuls g] (.int .i64 180) := by
 refine DPure_introF [] (fn := Tryz.f48) Tryz.func48 rfl Tryz.call48 (by simp [Tryz.ntmps48]) (by simp [mx]) ?_
 intro hwf B hnt
 simp only [Tryz.ntmps48] at hnt
 have hA := an_is anBN448 Tryz.mixed (aj2 @anBN448.eq_1 Tryz.results48)
 clear hwf
 simp only [argS]
 rcases h with h | h
 ·have d1 : (g.length : Int) < 1 := by omega
  have h0 : g = [] := List.eq_nil_of_length_eq_zero (by omega)
  subst h0
  exact go0 aj0 aj0 aj0
 ·have d1 : ¬ (g.length : Int) < 1 := by omega
  have d2 : (64 : Int) < (g.length : Int) := by omega
  have d3 : ¬ g.length < 1 := by omega
  exact go0 aj0 aj0 (aj4 d1 d2 h d3)
theorem rcheck48_bad (g : List Rul) (h1 : 1 ≤ g.length) (h2 : g.length ≤ 64) (hs : SmlG g) (ht : treesB g = false) : DPure Tryz.prog 48 [dRuls g] (.int .i64 170) := by
 refine DPure_introF [] (fn := Tryz.f48) Tryz.func48 rfl Tryz.call48 (by simp [Tryz.ntmps48]) (by simp [mx]) ?_
 intro hwf B hnt
 simp only [Tryz.ntmps48] at hnt
 have hA := an_is anBN448 Tryz.mixed (aj2 @anBN448.eq_1 Tryz.results48)
 clear hwf
 simp only [argS]
 have d1 : ¬ (g.length : Int) < 1 := by omega
 have d2 : ¬ (64 : Int) < (g.length : Int) := by omega
 have d3 : ¬ g.length < 1 := by omega
 have d4 : ¬ 64 < g.length := by omega
 have e1 := trees107_pure g hs
 rw [ht] at e1
 exact go0 (aj1 e1) aj0 (aj4 d1 d2 d3 d4)
set_option maxHeartbeats 2000000 in
theorem rcheck48_gt (gt : GT) (h1 : 1 ≤ gt.length) (h2 : gt.length ≤ 64) (hk : OkG gt) (hs : SmlG (mkG gt)) : DPure Tryz.prog 48 [dRuls (mkG gt)] (.int .i64 (codeT gt)) := by
 refine DPure_introF [] (fn := Tryz.f48) Tryz.func48 rfl Tryz.call48 (by simp [Tryz.ntmps48]) (by simp [mx]) ?_
 intro hwf B hnt
 simp only [Tryz.ntmps48] at hnt
 have hA := an_is anBN448 Tryz.mixed (aj2 @anBN448.eq_1 Tryz.results48)
 clear hwf
 simp only [argS]
 have hml := mkG_len gt
 have e1 := trees107_pure (mkG gt) hs
 rw [gt_trees hk] at e1
 have n2 := names_le (k := 2) hs
 have n3 := names_le (k := 3) hs
 have e2 := rheads39_pure (mkG gt)
 have e3 := rmissing108_pure (mkG gt) (by omega)
 have e4 := rlabels41_pure (mkG gt) (by omega)
 have e5 := rocc109_pure (mkG gt) hs (by omega)
 have e6 := rdeep110_pure gt hk hs h2
 have e7 := rtext111_pure gt hk hs h2
 have b1 := headsL_len (mkG gt)
 have b2 : (missL (mkG gt)).length ≤ 100000000 := by
  have := uniqS_len (namesK 2 (mkG gt))
  have := List.length_filter_le (fun s => !decide (s ∈ headsL (mkG gt))) (uniqS (namesK 2 (mkG gt)))
  unfold missL
  omega
 obtain ⟨g, hg⟩ : ∃ g, g = mkG gt := ⟨_, rfl⟩
 obtain ⟨C, hC⟩ : ∃ C, C = codeT gt := ⟨_, rfl⟩
 rw [← hC]
 unfold codeT at hC
 rw [← hg] at hml e1 e2 e3 e4 e5 e6 e7 b1 b2 hC ⊢
 obtain ⟨H, hH⟩ : ∃ H, H = headsL g := ⟨_, rfl⟩
 obtain ⟨m, hm⟩ : ∃ m, m = (missL g).length := ⟨_, rfl⟩
 obtain ⟨L, hL⟩ : ∃ L, L = labelsL' g := ⟨_, rfl⟩
 obtain ⟨o, ho⟩ : ∃ o, o = occG g := ⟨_, rfl⟩
 obtain ⟨T, hT⟩ : ∃ T, T = textG gt := ⟨_, rfl⟩
 rw [← hH] at e2 b1 hC
 rw [← hm] at e3 b2 hC
 rw [← hL] at e4 hC
 rw [← ho] at e5 hC
 rw [← hT] at e7 hC
 clear hH hm hL ho hT n2 n3 hg
 have d1 : ¬ (g.length : Int) < 1 := by omega
 have d2 : ¬ (64 : Int) < (g.length : Int) := by omega
 have d3 : ¬ g.length < 1 := by omega
 have d4 : ¬ 64 < g.length := by omega
 have w1 : IntKind.i64.wrap ((H.length : Int) + (m : Int)) = ((H.length + m : Nat) : Int) := by rw [wrap64_in (by omega) (by omega)]; omega
 by_cases c1 : 16 < H.length + m
 ·have q1 : (16 : Int) < ((H.length + m : Nat) : Int) := by omega
  rw [if_pos c1] at hC
  subst hC
  (repeat (first | refine DW_seq fun K hK => ?_ | (refine DW_r anBN448 Tryz.mixed (by kernel_rfl) ?_; simp [anBN448, hnt, d1, d2, d3, d4, w1, c1, q1, -Int.natCast_add]; try simp (disch := omega) only [wrap64_in]) | refine DW_block ?_ | (refine DW_if ?_ ?_ ?_; (· (simp [hnt, d1, d2, d3, d4, w1, c1, q1, -Int.natCast_add]; done)); (try (rotate_left; (· (intro hc; (try simp [hnt, d1, d2, d3, d4, w1, c1, q1, -Int.natCast_add] at hc); done))))) | (refine DW_ret ?_; simp [Tryz.results48, hnt, d1, d2, d3, d4, w1, c1, q1, -Int.natCast_add]) | ((first | refine DW_exit ?_ | refine DW_skip ?_); simp [hnt, d1, d2, d3, d4, w1, c1, q1, -Int.natCast_add]) | (intro hc; (try simp [hnt, d1, d2, d3, d4, w1, c1, q1, -Int.natCast_add] at hc); (try (exfalso; omega))) | ((first | refine callP_mk (e1) ?_ | refine callP_mk (e2) ?_ | refine callP_mk (e3) ?_ | refine callP_mk (e4) ?_ | refine callP_mk (e5) ?_ | refine callP_mk (e6) ?_ | refine callP_mk (e7) ?_ | (refine callP_wk (e1) ?_ ?_; (· (simp; done))) | (refine callP_wk (e2) ?_ ?_; (· (simp; done))) | (refine callP_wk (e3) ?_ ?_; (· (simp; done))) | (refine callP_wk (e4) ?_ ?_; (· (simp; done))) | (refine callP_wk (e5) ?_ ?_; (· (simp; done))) | (refine callP_wk (e6) ?_ ?_; (· (simp; done))) | (refine callP_wk (e7) ?_ ?_; (· (simp; done)))); try simp [hnt, d1, d2, d3, d4, w1, c1, q1, -Int.natCast_add]) | (refine ⟨?_, ?_⟩; · omega) | omega | apply_assumption -exfalso -symm | (exfalso; omega)))
 rw [if_neg c1] at hC
 have q1 : ¬ (16 : Int) < ((H.length + m : Nat) : Int) := by omega
 by_cases c2 : 16 < L.length
 ·have q2 : (16 : Int) < (L.length : Int) := by omega
  rw [if_pos c2] at hC
  subst hC
  (repeat (first | refine DW_seq fun K hK => ?_ | (refine DW_r anBN448 Tryz.mixed (by kernel_rfl) ?_; simp [anBN448, hnt, d1, d2, d3, d4, w1, c1, q1, c2, q2, -Int.natCast_add]; try simp (disch := omega) only [wrap64_in]) | refine DW_block ?_ | (refine DW_if ?_ ?_ ?_; (· (simp [hnt, d1, d2, d3, d4, w1, c1, q1, c2, q2, -Int.natCast_add]; done)); (try (rotate_left; (· (intro hc; (try simp [hnt, d1, d2, d3, d4, w1, c1, q1, c2, q2, -Int.natCast_add] at hc); done))))) | (refine DW_ret ?_; simp [Tryz.results48, hnt, d1, d2, d3, d4, w1, c1, q1, c2, q2, -Int.natCast_add]) | ((first | refine DW_exit ?_ | refine DW_skip ?_); simp [hnt, d1, d2, d3, d4, w1, c1, q1, c2, q2, -Int.natCast_add]) | (intro hc; (try simp [hnt, d1, d2, d3, d4, w1, c1, q1, c2, q2, -Int.natCast_add] at hc); (try (exfalso; omega))) | ((first | refine callP_mk (e1) ?_ | refine callP_mk (e2) ?_ | refine callP_mk (e3) ?_ | refine callP_mk (e4) ?_ | refine callP_mk (e5) ?_ | refine callP_mk (e6) ?_ | refine callP_mk (e7) ?_ | (refine callP_wk (e1) ?_ ?_; (· (simp; done))) | (refine callP_wk (e2) ?_ ?_; (· (simp; done))) | (refine callP_wk (e3) ?_ ?_; (· (simp; done))) | (refine callP_wk (e4) ?_ ?_; (· (simp; done))) | (refine callP_wk (e5) ?_ ?_; (· (simp; done))) | (refine callP_wk (e6) ?_ ?_; (· (simp; done))) | (refine callP_wk (e7) ?_ ?_; (· (simp; done)))); try simp [hnt, d1, d2, d3, d4, w1, c1, q1, c2, q2, -Int.natCast_add]) | (refine ⟨?_, ?_⟩; · omega) | omega | apply_assumption -exfalso -symm | (exfalso; omega)))
 rw [if_neg c2] at hC
 have q2 : ¬ (16 : Int) < (L.length : Int) := by omega
 by_cases c3 : 64 < o
 ·have q3 : (64 : Int) < (o : Int) := by omega
  rw [if_pos c3] at hC
  subst hC
  (repeat (first | refine DW_seq fun K hK => ?_ | (refine DW_r anBN448 Tryz.mixed (by kernel_rfl) ?_; simp [anBN448, hnt, d1, d2, d3, d4, w1, c1, q1, c2, q2, c3, q3, -Int.natCast_add]; try simp (disch := omega) only [wrap64_in]) | refine DW_block ?_ | (refine DW_if ?_ ?_ ?_; (· (simp [hnt, d1, d2, d3, d4, w1, c1, q1, c2, q2, c3, q3, -Int.natCast_add]; done)); (try (rotate_left; (· (intro hc; (try simp [hnt, d1, d2, d3, d4, w1, c1, q1, c2, q2, c3, q3, -Int.natCast_add] at hc); done))))) | (refine DW_ret ?_; simp [Tryz.results48, hnt, d1, d2, d3, d4, w1, c1, q1, c2, q2, c3, q3, -Int.natCast_add]) | ((first | refine DW_exit ?_ | refine DW_skip ?_); simp [hnt, d1, d2, d3, d4, w1, c1, q1, c2, q2, c3, q3, -Int.natCast_add]) | (intro hc; (try simp [hnt, d1, d2, d3, d4, w1, c1, q1, c2, q2, c3, q3, -Int.natCast_add] at hc); (try (exfalso; omega))) | ((first | refine callP_mk (e1) ?_ | refine callP_mk (e2) ?_ | refine callP_mk (e3) ?_ | refine callP_mk (e4) ?_ | refine callP_mk (e5) ?_ | refine callP_mk (e6) ?_ | refine callP_mk (e7) ?_ | (refine callP_wk (e1) ?_ ?_; (· (simp; done))) | (refine callP_wk (e2) ?_ ?_; (· (simp; done))) | (refine callP_wk (e3) ?_ ?_; (· (simp; done))) | (refine callP_wk (e4) ?_ ?_; (· (simp; done))) | (refine callP_wk (e5) ?_ ?_; (· (simp; done))) | (refine callP_wk (e6) ?_ ?_; (· (simp; done))) | (refine callP_wk (e7) ?_ ?_; (· (simp; done)))); try simp [hnt, d1, d2, d3, d4, w1, c1, q1, c2, q2, c3, q3, -Int.natCast_add]) | (refine ⟨?_, ?_⟩; · omega) | omega | apply_assumption -exfalso -symm | (exfalso; omega)))
 rw [if_neg c3] at hC
 have q3 : ¬ (64 : Int) < (o : Int) := by omega
 cases c4 : deepG gt
 rotate_left
 ·rw [if_pos c4] at hC
  rw [c4] at e6
  subst hC
  (repeat (first | refine DW_seq fun K hK => ?_ | (refine DW_r anBN448 Tryz.mixed (by kernel_rfl) ?_; simp [anBN448, hnt, d1, d2, d3, d4, w1, c1, q1, c2, q2, c3, q3, -Int.natCast_add]; try simp (disch := omega) only [wrap64_in]) | refine DW_block ?_ | (refine DW_if ?_ ?_ ?_; (· (simp [hnt, d1, d2, d3, d4, w1, c1, q1, c2, q2, c3, q3, -Int.natCast_add]; done)); (try (rotate_left; (· (intro hc; (try simp [hnt, d1, d2, d3, d4, w1, c1, q1, c2, q2, c3, q3, -Int.natCast_add] at hc); done))))) | (refine DW_ret ?_; simp [Tryz.results48, hnt, d1, d2, d3, d4, w1, c1, q1, c2, q2, c3, q3, -Int.natCast_add]) | ((first | refine DW_exit ?_ | refine DW_skip ?_); simp [hnt, d1, d2, d3, d4, w1, c1, q1, c2, q2, c3, q3, -Int.natCast_add]) | (intro hc; (try simp [hnt, d1, d2, d3, d4, w1, c1, q1, c2, q2, c3, q3, -Int.natCast_add] at hc); (try (exfalso; omega))) | ((first | refine callP_mk (e1) ?_ | refine callP_mk (e2) ?_ | refine callP_mk (e3) ?_ | refine callP_mk (e4) ?_ | refine callP_mk (e5) ?_ | refine callP_mk (e6) ?_ | refine callP_mk (e7) ?_ | (refine callP_wk (e1) ?_ ?_; (· (simp; done))) | (refine callP_wk (e2) ?_ ?_; (· (simp; done))) | (refine callP_wk (e3) ?_ ?_; (· (simp; done))) | (refine callP_wk (e4) ?_ ?_; (· (simp; done))) | (refine callP_wk (e5) ?_ ?_; (· (simp; done))) | (refine callP_wk (e6) ?_ ?_; (· (simp; done))) | (refine callP_wk (e7) ?_ ?_; (· (simp; done)))); try simp [hnt, d1, d2, d3, d4, w1, c1, q1, c2, q2, c3, q3, -Int.natCast_add]) | (refine ⟨?_, ?_⟩; · omega) | omega | apply_assumption -exfalso -symm | (exfalso; omega)))
 rw [if_neg (by rw [c4]; simp)] at hC
 rw [c4] at e6
 by_cases c5 : 0 < m
 ·have q5 : (0 : Int) < (m : Int) := by omega
  rw [if_pos c5] at hC
  subst hC
  (repeat (first | refine DW_seq fun K hK => ?_ | (refine DW_r anBN448 Tryz.mixed (by kernel_rfl) ?_; simp [anBN448, hnt, d1, d2, d3, d4, w1, c1, q1, c2, q2, c3, q3, c5, q5, -Int.natCast_add]; try simp (disch := omega) only [wrap64_in]) | refine DW_block ?_ | (refine DW_if ?_ ?_ ?_; (· (simp [hnt, d1, d2, d3, d4, w1, c1, q1, c2, q2, c3, q3, c5, q5, -Int.natCast_add]; done)); (try (rotate_left; (· (intro hc; (try simp [hnt, d1, d2, d3, d4, w1, c1, q1, c2, q2, c3, q3, c5, q5, -Int.natCast_add] at hc); done))))) | (refine DW_ret ?_; simp [Tryz.results48, hnt, d1, d2, d3, d4, w1, c1, q1, c2, q2, c3, q3, c5, q5, -Int.natCast_add]) | ((first | refine DW_exit ?_ | refine DW_skip ?_); simp [hnt, d1, d2, d3, d4, w1, c1, q1, c2, q2, c3, q3, c5, q5, -Int.natCast_add]) | (intro hc; (try simp [hnt, d1, d2, d3, d4, w1, c1, q1, c2, q2, c3, q3, c5, q5, -Int.natCast_add] at hc); (try (exfalso; omega))) | ((first | refine callP_mk (e1) ?_ | refine callP_mk (e2) ?_ | refine callP_mk (e3) ?_ | refine callP_mk (e4) ?_ | refine callP_mk (e5) ?_ | refine callP_mk (e6) ?_ | refine callP_mk (e7) ?_ | (refine callP_wk (e1) ?_ ?_; (· (simp; done))) | (refine callP_wk (e2) ?_ ?_; (· (simp; done))) | (refine callP_wk (e3) ?_ ?_; (· (simp; done))) | (refine callP_wk (e4) ?_ ?_; (· (simp; done))) | (refine callP_wk (e5) ?_ ?_; (· (simp; done))) | (refine callP_wk (e6) ?_ ?_; (· (simp; done))) | (refine callP_wk (e7) ?_ ?_; (· (simp; done)))); try simp [hnt, d1, d2, d3, d4, w1, c1, q1, c2, q2, c3, q3, c5, q5, -Int.natCast_add]) | (refine ⟨?_, ?_⟩; · omega) | omega | apply_assumption -exfalso -symm | (exfalso; omega)))
 rw [if_neg c5] at hC
 have q5 : ¬ (0 : Int) < (m : Int) := by omega
 by_cases c6 : 2048 < T.size
 ·have q6 : (2048 : Int) < (T.size : Int) := by omega
  rw [if_pos c6] at hC
  subst hC
  (repeat (first | refine DW_seq fun K hK => ?_ | (refine DW_r anBN448 Tryz.mixed (by kernel_rfl) ?_; simp [anBN448, hnt, d1, d2, d3, d4, w1, c1, q1, c2, q2, c3, q3, c5, q5, c6, q6, -Int.natCast_add]; try simp (disch := omega) only [wrap64_in]) | refine DW_block ?_ | (refine DW_if ?_ ?_ ?_; (· (simp [hnt, d1, d2, d3, d4, w1, c1, q1, c2, q2, c3, q3, c5, q5, c6, q6, -Int.natCast_add]; done)); (try (rotate_left; (· (intro hc; (try simp [hnt, d1, d2, d3, d4, w1, c1, q1, c2, q2, c3, q3, c5, q5, c6, q6, -Int.natCast_add] at hc); done))))) | (refine DW_ret ?_; simp [Tryz.results48, hnt, d1, d2, d3, d4, w1, c1, q1, c2, q2, c3, q3, c5, q5, c6, q6, -Int.natCast_add]) | ((first | refine DW_exit ?_ | refine DW_skip ?_); simp [hnt, d1, d2, d3, d4, w1, c1, q1, c2, q2, c3, q3, c5, q5, c6, q6, -Int.natCast_add]) | (intro hc; (try simp [hnt, d1, d2, d3, d4, w1, c1, q1, c2, q2, c3, q3, c5, q5, c6, q6, -Int.natCast_add] at hc); (try (exfalso; omega))) | ((first | refine callP_mk (e1) ?_ | refine callP_mk (e2) ?_ | refine callP_mk (e3) ?_ | refine callP_mk (e4) ?_ | refine callP_mk (e5) ?_ | refine callP_mk (e6) ?_ | refine callP_mk (e7) ?_ | (refine callP_wk (e1) ?_ ?_; (· (simp; done))) | (refine callP_wk (e2) ?_ ?_; (· (simp; done))) | (refine callP_wk (e3) ?_ ?_; (· (simp; done))) | (refine callP_wk (e4) ?_ ?_; (· (simp; done))) | (refine callP_wk (e5) ?_ ?_; (· (simp; done))) | (refine callP_wk (e6) ?_ ?_; (· (simp; done))) | (refine callP_wk (e7) ?_ ?_; (· (simp; done)))); try simp [hnt, d1, d2, d3, d4, w1, c1, q1, c2, q2, c3, q3, c5, q5, c6, q6, -Int.natCast_add]) | (refine ⟨?_, ?_⟩; · omega) | omega | apply_assumption -exfalso -symm | (exfalso; omega)))
 rw [if_neg c6] at hC
 have q6 : ¬ (2048 : Int) < (T.size : Int) := by omega
 subst hC
 (repeat (first | refine DW_seq fun K hK => ?_ | (refine DW_r anBN448 Tryz.mixed (by kernel_rfl) ?_; simp [anBN448, hnt, d1, d2, d3, d4, w1, c1, q1, c2, q2, c3, q3, c5, q5, c6, q6, -Int.natCast_add]; try simp (disch := omega) only [wrap64_in]) | refine DW_block ?_ | (refine DW_if ?_ ?_ ?_; (· (simp [hnt, d1, d2, d3, d4, w1, c1, q1, c2, q2, c3, q3, c5, q5, c6, q6, -Int.natCast_add]; done)); (try (rotate_left; (· (intro hc; (try simp [hnt, d1, d2, d3, d4, w1, c1, q1, c2, q2, c3, q3, c5, q5, c6, q6, -Int.natCast_add] at hc); done))))) | (refine DW_ret ?_; simp [Tryz.results48, hnt, d1, d2, d3, d4, w1, c1, q1, c2, q2, c3, q3, c5, q5, c6, q6, -Int.natCast_add]) | ((first | refine DW_exit ?_ | refine DW_skip ?_); simp [hnt, d1, d2, d3, d4, w1, c1, q1, c2, q2, c3, q3, c5, q5, c6, q6, -Int.natCast_add]) | (intro hc; (try simp [hnt, d1, d2, d3, d4, w1, c1, q1, c2, q2, c3, q3, c5, q5, c6, q6, -Int.natCast_add] at hc); (try (exfalso; omega))) | ((first | refine callP_mk (e1) ?_ | refine callP_mk (e2) ?_ | refine callP_mk (e3) ?_ | refine callP_mk (e4) ?_ | refine callP_mk (e5) ?_ | refine callP_mk (e6) ?_ | refine callP_mk (e7) ?_ | (refine callP_wk (e1) ?_ ?_; (· (simp; done))) | (refine callP_wk (e2) ?_ ?_; (· (simp; done))) | (refine callP_wk (e3) ?_ ?_; (· (simp; done))) | (refine callP_wk (e4) ?_ ?_; (· (simp; done))) | (refine callP_wk (e5) ?_ ?_; (· (simp; done))) | (refine callP_wk (e6) ?_ ?_; (· (simp; done))) | (refine callP_wk (e7) ?_ ?_; (· (simp; done)))); try simp [hnt, d1, d2, d3, d4, w1, c1, q1, c2, q2, c3, q3, c5, q5, c6, q6, -Int.natCast_add]) | (refine ⟨?_, ?_⟩; · omega) | omega | apply_assumption -exfalso -symm | (exfalso; omega)))
end Go.Proofs.YtdgocjbakjamaaaGreat
end

section
namespace Go.Proofs.YtdgocjbakjamaaaGreat
open Go Go.Dm
variable [DMode]
attribute [local irreducible] DW callP callS
set_option maxRecDepth 100000
def keyL (b : Bool) (l : List ByteArray) : List DVal := l.map fun s => .agg [.bool b, .str s]
def upTo (n : Nat) : List DVal := (List.range n).map fun i : Nat => DVal.int .i64 (i : Int)
theorem keyL_cons (b : Bool) (s : ByteArray) (l : List ByteArray) : keyL b (s :: l) = .agg [.bool b, .str s] :: keyL b l := rfl
theorem keyL_len (b : Bool) (l : List ByteArray) : (keyL b l).length = l.length := by simp [keyL]
theorem keyL_snoc (b : Bool) (l : List ByteArray) (s : ByteArray) : keyL b (l ++ [s]) = keyL b l ++ [.agg [.bool b, .str s]] := by simp [keyL]
theorem upTo_succ (n : Nat) : upTo (n + 1) = upTo n ++ [.int .i64 (n : Int)] := by simp [upTo, List.range_succ]
theorem upTo_len (n : Nat) : (upTo n).length = n := by simp [upTo]
@[simp] theorem mxL_keyL (b : Bool) (l : List ByteArray) : mxL (keyL b l) = 0 := by
 induction l with
 | nil => rfl
 | cons a l ih => rw [keyL_cons]; simp [mxL, mx, ih]
@[simp] theorem mxL_upTo (n : Nat) : mxL (upTo n) = 0 := by
 unfold upTo
 induction List.range n with
 | nil => rfl
 | cons a l ih => simp [mxL, mx, ih]
theorem key_eq (a b : Bool) (s x : ByteArray) : eqCs (cellsK (.agg [.bool a, .str s])) (cellsK (.agg [.bool b, .str x])) = ((a == b) && (s == x)) := by
 simp [cellsK, eqCs, eqC]
theorem lookL_none {b : Bool} : ∀ {l : List ByteArray} {s : ByteArray}, ¬ s ∈ l → lookI (keyL b l) (.agg [.bool b, .str s]) = none
 | [], _, _ => rfl
 | x :: l, s, h => by
  have h1 : (s == x) = false := by simp; intro e; exact h (by simp [e])
  rw [keyL_cons, lookI, key_eq, h1, lookL_none (l := l) (s := s) fun hm => h (List.mem_cons_of_mem _ hm)]
  simp
theorem lookL_other {b : Bool} : ∀ {l : List ByteArray} {s : ByteArray}, lookI (keyL (!b) l) (.agg [.bool b, .str s]) = none
 | [], _ => rfl
 | x :: l, s => by
  rw [keyL_cons, lookI, key_eq, lookL_other (l := l) (s := s)]
  cases b <;> simp
theorem lookL_some {b : Bool} : ∀ {l : List ByteArray} {s : ByteArray}, s ∈ l → lookI (keyL b l) (.agg [.bool b, .str s]) = some (ixS l s)
 | [], _, h => by simp at h
 | x :: l, s, h => by
  unfold ixS
  rw [List.findIdx_cons, keyL_cons, lookI, key_eq]
  by_cases h1 : s = x
  ·subst h1; simp
  ·have h2 := lookL_some (b := b) (l := l) (s := s) (by simpa [h1] using h)
   have h1b : (s == x) = false := by simpa using h1
   rw [h2]
   simp [h1b, ixS]
theorem lookI_app : ∀ (a b : List DVal) (x : DVal), lookI (a ++ b) x = match lookI a x with | some j => some j | none => (lookI b x).map (· + a.length)
 | [], b, x => by simp [lookI]
 | k :: a, b, x => by
  rw [List.cons_append, lookI, lookI, lookI_app a b x]
  split
  ·rfl
  ·cases lookI a x with
   | some j => rfl
   | none => cases lookI b x <;> simp; omega
theorem keyL_ok (b : Bool) (l : List ByteArray) : (keyL b l).all (keyOK Tryz.prog 112) = true := by
 induction l with
 | nil => rfl
 | cons p l ih => rw [keyL_cons, List.all_cons, ih]; simp
def tabK (H L : List ByteArray) : List DVal := keyL false H ++ keyL true L
def tabV (H L : List ByteArray) : List DVal := upTo H.length ++ upTo L.length
abbrev dTab (H L : List ByteArray) : DVal := .ref [dStrs H, dStrs L, .mp (tabK H L) (tabV H L)]
@[simp] theorem mx_tabK (H L : List ByteArray) : mxL (tabK H L) = 0 := by simp [tabK]
@[simp] theorem mx_tabV (H L : List ByteArray) : mxL (tabV H L) = 0 := by simp [tabV]
theorem tab_ok (H L : List ByteArray) : (tabK H L).all (keyOK Tryz.prog 112) = true := by
 unfold tabK; rw [List.all_append, keyL_ok, keyL_ok]; rfl
def pickL (H L : List ByteArray) (b : Bool) : List ByteArray := if b then L else H
def numK (l : List ByteArray) (s : ByteArray) : Int := if s ∈ l then (ixS l s : Int) else 0
def numE (l : List ByteArray) (s : ByteArray) : Int := if s ∈ l then 0 else 4
theorem upTo_at {n i : Nat} (h : i < n) : (upTo n)[i]? = some (.int .i64 (i : Int)) := by
 unfold upTo
 rw [List.getElem?_map, List.getElem?_range h]
 rfl
theorem tab_look {H L : List ByteArray} {b : Bool} {s : ByteArray} (h : s ∈ pickL H L b) : ∃ j, lookI (tabK H L) (.agg [.bool b, .str s]) = some j ∧ (tabV H L)[j]? = some (.int .i64 (ixS (pickL H L b) s)) := by
 unfold tabK tabV
 rw [lookI_app]
 cases b with
 | false =>
  have h' : s ∈ H := h
  rw [lookL_some h']
  have hi := ixS_lt h'
  exact ⟨_, rfl, by rw [List.getElem?_append_left (by rw [upTo_len]; exact hi)]; exact upTo_at hi⟩
 | true =>
  have h' : s ∈ L := h
  have hi := ixS_lt h'
  have h0 : lookI (keyL false H) (.agg [.bool true, .str s]) = none := lookL_other (b := true)
  rw [h0, lookL_some h']
  refine ⟨_, rfl, ?_⟩
  show (upTo H.length ++ upTo L.length)[ixS L s + (keyL false H).length]? = _
  rw [keyL_len, List.getElem?_append_right (by rw [upTo_len]; omega), upTo_len, Nat.add_sub_cancel]
  exact upTo_at hi
theorem tab_none {H L : List ByteArray} {b : Bool} {s : ByteArray} (h : ¬ s ∈ pickL H L b) : lookI (tabK H L) (.agg [.bool b, .str s]) = none := by
 unfold tabK
 rw [lookI_app]
 cases b with
 | false =>
  have h' : ¬ s ∈ H := h
  rw [lookL_none h', show lookI (keyL true L) (.agg [.bool false, .str s]) = none from lookL_other (b := false)]
  rfl
 | true =>
  have h' : ¬ s ∈ L := h
  rw [show lookI (keyL false H) (.agg [.bool true, .str s]) = none from lookL_other (b := true), lookL_none h']
  rfl
def anSY087 : Ann := ⟨[], []⟩
theorem there87_pure (H L : List ByteArray) : DPure Tryz.prog 87 [dTab H L] (.bool true) := by
 refine DPure_introF [] (fn := Tryz.f87) Tryz.func87 rfl Tryz.call87 (by simp [Tryz.ntmps87]) (by simp [mx]) ?_
 intro hwf B hnt
 simp only [Tryz.ntmps87] at hnt
 have hA := an_is anSY087 Tryz.mixed (aj2 @anSY087.eq_1 Tryz.results87)
 clear hwf
 simp only [argS]
 exact go0 aj0 aj0 aj0
def anSY0208 : Ann := ⟨[], []⟩
theorem number208_pure (H L : List ByteArray) (b : Bool) (s : ByteArray) : DPure Tryz.prog 208 [dTab H L, .agg [.bool b, .str s]] (.tup [.int .i64 (numK (pickL H L b) s), .int .i64 (numE (pickL H L b) s)]) := by
 refine DPure_introF [] (fn := Tryz.f208) Tryz.func208 rfl Tryz.call208 (by simp [Tryz.ntmps208]) (by simp [mx]) ?_
 intro hwf B hnt
 simp only [Tryz.ntmps208] at hnt
 have hA := an_is anSY0208 Tryz.mixed (aj2 @anSY0208.eq_1 Tryz.results208)
 clear hwf
 simp only [argS]
 have e1 := there87_pure H L
 have hok := tab_ok H L
 unfold numK numE
 by_cases h : s ∈ pickL H L b
 ·obtain ⟨j, h1, h2⟩ := tab_look h
  rw [if_pos h, if_pos h]
  exact go0 (aj1 e1) aj0 (aj3 hok h1 h2)
 ·have h1 := tab_none h
  rw [if_neg h, if_neg h]
  exact go0 (aj1 e1) aj0 (aj2 hok h1)
def anSY0135 : Ann := ⟨[], []⟩
theorem nt135_pure (H L : List ByteArray) (s : ByteArray) : DPure Tryz.prog 135 [dTab H L, .str s] (.tup [.int .i64 (numK H s), .int .i64 (numE H s)]) := by
 refine DPure_introF [] (fn := Tryz.f135) Tryz.func135 rfl Tryz.call135 (by simp [Tryz.ntmps135]) (by simp [mx]) ?_
 intro hwf B hnt
 simp only [Tryz.ntmps135] at hnt
 have hA := an_is anSY0135 Tryz.mixed (aj2 @anSY0135.eq_1 Tryz.results135)
 clear hwf
 simp only [argS]
 have e1 := number208_pure H L false s
 rw [show pickL H L false = H from rfl] at e1
 exact go0 (aj1 e1) aj0 aj0
def anSY0136 : Ann := ⟨[], []⟩
theorem label136_pure (H L : List ByteArray) (s : ByteArray) : DPure Tryz.prog 136 [dTab H L, .str s] (.tup [.int .i64 (numK L s), .int .i64 (numE L s)]) := by
 refine DPure_introF [] (fn := Tryz.f136) Tryz.func136 rfl Tryz.call136 (by simp [Tryz.ntmps136]) (by simp [mx]) ?_
 intro hwf B hnt
 simp only [Tryz.ntmps136] at hnt
 have hA := an_is anSY0136 Tryz.mixed (aj2 @anSY0136.eq_1 Tryz.results136)
 clear hwf
 simp only [argS]
 have e1 := number208_pure H L true s
 rw [show pickL H L true = L from rfl] at e1
 exact go0 (aj1 e1) aj0 aj0
def symS (H L : List ByteArray) (x : Nd) : Sym := if x.k = 3 then (if x.s ∈ L then ⟨true, ixS L x.s⟩ else ⟨false, 0⟩) else if x.k = 2 then (if x.s ∈ H then ⟨false, ixS H x.s⟩ else ⟨false, 0⟩) else ⟨false, 0⟩
def symE (H L : List ByteArray) (x : Nd) : Int := if x.k = 3 then numE L x.s else if x.k = 2 then numE H x.s else 2
def anSY068 : Ann := ⟨[], []⟩
set_option maxHeartbeats 1000000 in
theorem sym68_pure (H L : List ByteArray) (x : Nd) : DPure Tryz.prog 68 [dTab H L, .agg (dNd x)] (.tup [.agg (dSym (symS H L x)), .int .i64 (symE H L x)]) := by
 refine DPure_introF [] (fn := Tryz.f68) Tryz.func68 rfl Tryz.call68 (by simp [Tryz.ntmps68]) (by simp [mx]) ?_
 intro hwf B hnt
 simp only [Tryz.ntmps68] at hnt
 have hA := an_is anSY068 Tryz.mixed (aj2 @anSY068.eq_1 Tryz.results68)
 clear hwf
 simp only [argS]
 have e1 := there87_pure H L
 have e2 := nt135_pure H L x.s
 have e3 := label136_pure H L x.s
 unfold symS symE
 by_cases k3 : x.k = 3
 ·by_cases h : x.s ∈ L
  ·simp only [numK, numE, h, if_true] at e3
   exact go0 (aj3 e1 e2 e3) aj0 (aj5 @dNd.eq_1 @dSym.eq_1 k3 h @numE.eq_1)
  ·simp only [numK, numE, h, if_false] at e3
   exact go0 (aj3 e1 e2 e3) aj0 (aj5 @dNd.eq_1 @dSym.eq_1 k3 h @numE.eq_1)
 ·have k3' : (x.k == 3) = false := by simpa using k3
  by_cases k2 : x.k = 2
  ·by_cases h : x.s ∈ H
   ·simp only [numK, numE, h, if_true] at e2
    exact go0 (aj3 e1 e2 e3) aj0 (aj7 @dNd.eq_1 @dSym.eq_1 k3 k3' k2 h @numE.eq_1)
   ·simp only [numK, numE, h, if_false] at e2
    exact go0 (aj3 e1 e2 e3) aj0 (aj7 @dNd.eq_1 @dSym.eq_1 k3 k3' k2 h @numE.eq_1)
  ·have k2' : (x.k == 2) = false := by simpa using k2
   exact go0 (aj3 e1 e2 e3) aj0 (aj6 @dNd.eq_1 @dSym.eq_1 k3 k3' k2 k2')
def anSY066 : Ann := ⟨[], []⟩
theorem names66_pure (H L : List ByteArray) : DPure Tryz.prog 66 [dTab H L] (dStrs H) := by
 refine DPure_introF [] (fn := Tryz.f66) Tryz.func66 rfl Tryz.call66 (by simp [Tryz.ntmps66]) (by simp [mx]) ?_
 intro hwf B hnt
 simp only [Tryz.ntmps66] at hnt
 have hA := an_is anSY066 Tryz.mixed (aj2 @anSY066.eq_1 Tryz.results66)
 clear hwf
 simp only [argS]
 have e1 := there87_pure H L
 have e2 := cloneS_pure H
 exact go0 (aj2 e1 e2) aj0 aj0
theorem placeS_ix {l : List ByteArray} {s : ByteArray} (h : s ∈ l) : placeS l s = (ixS l s : Int) := by
 unfold placeS ixS
 rw [if_pos (List.any_eq_true.2 ⟨s, h, by simp⟩)]
theorem placeS_no {l : List ByteArray} {s : ByteArray} (h : ¬ s ∈ l) : placeS l s = -1 := by
 unfold placeS
 rw [if_neg (fun hh => h (by obtain ⟨x, hx, hs⟩ := List.any_eq_true.1 hh; simp at hs; subst hs; exact hx))]
def anSY0231 : Ann := ⟨[], []⟩
theorem rnumber231_pure (l : List ByteArray) (s : ByteArray) : DPure Tryz.prog 231 [dStrs l, .str s] (.tup [.int .i64 (numK l s), .int .i64 (numE l s)]) := by
 refine DPure_introF [] (fn := Tryz.f231) Tryz.func231 rfl Tryz.call231 (by simp [Tryz.ntmps231]) (by simp [mx]) ?_
 intro hwf B hnt
 simp only [Tryz.ntmps231] at hnt
 have hA := an_is anSY0231 Tryz.mixed (aj2 @anSY0231.eq_1 Tryz.results231)
 clear hwf
 simp only [argS]
 have e1 := place114_pure l s
 unfold numK numE
 by_cases h : s ∈ l
 ·rw [placeS_ix h] at e1
  rw [if_pos h, if_pos h]
  have hlt : ¬ (ixS l s : Int) < 0 := by omega
  exact go0 (aj1 e1) aj0 (aj1 hlt)
 ·rw [placeS_no h] at e1
  rw [if_neg h, if_neg h]
  exact go0 (aj1 e1) aj0 aj0
def anSY0147 : Ann := ⟨[], []⟩
set_option maxHeartbeats 1000000 in
theorem rsym147_pure (g : List Rul) (x : Nd) (hn : ((namesK 3 g).length + 1) * 16 ≤ 150000000000000) : DPure Tryz.prog 147 [dRuls g, .agg (dNd x)] (.tup [.agg (dSym (symS (headsL g) (labelsL' g) x)), .int .i64 (symE (headsL g) (labelsL' g) x)]) := by
 refine DPure_introF [] (fn := Tryz.f147) Tryz.func147 rfl Tryz.call147 (by simp [Tryz.ntmps147]) (by simp [mx]) ?_
 intro hwf B hnt
 simp only [Tryz.ntmps147] at hnt
 have hA := an_is anSY0147 Tryz.mixed (aj2 @anSY0147.eq_1 Tryz.results147)
 clear hwf
 simp only [argS]
 have e1 := rheads39_pure g
 have e2 := rlabels41_pure g hn
 obtain ⟨H, hH⟩ : ∃ H, H = headsL g := ⟨_, rfl⟩
 obtain ⟨L, hL⟩ : ∃ L, L = labelsL' g := ⟨_, rfl⟩
 rw [← hH] at e1
 rw [← hL] at e2
 rw [← hH, ← hL]
 have e3 := rnumber231_pure H x.s
 have e4 := rnumber231_pure L x.s
 unfold symS symE
 by_cases k3 : x.k = 3
 ·by_cases h : x.s ∈ L
  ·simp only [numK, numE, h, if_true] at e4
   exact go0 (aj3 e1 e2 e4) aj0 (aj5 @dNd.eq_1 @dSym.eq_1 k3 h @numE.eq_1)
  ·simp only [numK, numE, h, if_false] at e4
   exact go0 (aj3 e1 e2 e4) aj0 (aj5 @dNd.eq_1 @dSym.eq_1 k3 h @numE.eq_1)
 ·have k3' : (x.k == 3) = false := by simpa using k3
  by_cases k2 : x.k = 2
  ·by_cases h : x.s ∈ H
   ·simp only [numK, numE, h, if_true] at e3
    exact go0 (aj3 e1 e2 e3) aj0 (aj7 @dNd.eq_1 @dSym.eq_1 k3 k3' k2 h @numE.eq_1)
   ·simp only [numK, numE, h, if_false] at e3
    exact go0 (aj3 e1 e2 e3) aj0 (aj7 @dNd.eq_1 @dSym.eq_1 k3 k3' k2 h @numE.eq_1)
  ·have k2' : (x.k == 2) = false := by simpa using k2
   exact go0 aj0 aj0 (aj6 @dNd.eq_1 @dSym.eq_1 k3 k3' k2 k2')
end Go.Proofs.YtdgocjbakjamaaaGreat
end

section
namespace Go.Proofs.YtdgocjbakjamaaaGreat
open Go Go.Dm
variable [DMode]
attribute [local irreducible] DW callP callS
set_option maxRecDepth 100000
def bldO (i j : Nat) (T : ByteArray) : List Ent := if T.size = 0 then [⟨i, 1, .row 299 2 32 [[.nilp, .nilsl]]⟩] else [⟨i, 1, .row 299 2 32 [[.rx i 1 2 0 0, .osl j 1]]⟩, ⟨j, 1, .row 5 1 1 (bytesD T)⟩]
theorem bldO_none {i j : Nat} {T : ByteArray} (h : T.size = 0) : bldO i j T = [⟨i, 1, .row 299 2 32 [[.nilp, .nilsl]]⟩] := if_pos h
theorem bldO_some {i j : Nat} {T : ByteArray} (h : T.size ≠ 0) : bldO i j T = [⟨i, 1, .row 299 2 32 [[.rx i 1 2 0 0, .osl j 1]]⟩, ⟨j, 1, .row 5 1 1 (bytesD T)⟩] := if_neg h
theorem size0 {T : ByteArray} (h : T.size = 0) : T = ⟨#[]⟩ := by
 obtain ⟨a⟩ := T
 have : a = #[] := Array.eq_empty_of_size_eq_zero h
 rw [this]
theorem empty_app (x : ByteArray) : (⟨#[]⟩ : ByteArray) ++ x = x := by
 apply bytes_ext
 simp [ByteArray.data_append]
end Go.Proofs.YtdgocjbakjamaaaGreat
end

section
namespace Go.Proofs.YtdgocjbakjamaaaGreat
open Go Go.Dm
variable [DMode]
attribute [local irreducible] DW callP callS
set_option maxRecDepth 100000
def anBN2191 : Ann := ⟨[], []⟩
theorem headed191_pure (s : ByteArray) : DPure Tryz.prog 191 [.str s] (.bool (txtOK 2 s)) := by
 refine DPure_introF [] (fn := Tryz.f191) Tryz.func191 rfl Tryz.call191 (by simp [Tryz.ntmps191]) (by simp [mx]) ?_
 intro hwf B hnt
 simp only [Tryz.ntmps191] at hnt
 have hA := an_is anBN2191 Tryz.mixed (aj2 @anBN2191.eq_1 Tryz.results191)
 clear hwf
 simp only [argS]
 have e1 := check112_pure 2 (.inl rfl) s
 simp only [dNode] at e1
 cases h : txtOK 2 s
 ·rw [h] at e1
  exact go0 (aj1 e1) aj0 aj0
 ·rw [h] at e1
  exact go0 (aj1 e1) aj0 aj0
def anBN2256 : Ann := ⟨[], []⟩
theorem indexFuncR_pure (g : FuncId) (us cs : List DVal) (l : List Rul) (q : Rul → Bool) (hq : ∀ x ∈ l, DPure Tryz.prog g (us ++ [.agg (dRul x)] ++ cs) (.bool (q x))) :
  DPure Tryz.prog 256 [dRuls l, .fn (.func g) us cs] (.int .i64 (if l.any q then ((l.findIdx q : Nat) : Int) else -1)) := by
 refine DPure_introF [] (fn := Tryz.f256) Tryz.func256 rfl Tryz.call256 (by simp [Tryz.ntmps256]) (by simp [mx]) ?_
 intro hwf B hnt
 simp only [Tryz.ntmps256] at hnt
 have hA := an_is anBN2256 Tryz.mixed (aj2 @anBN2256.eq_1 Tryz.results256)
 have hw1 := len_ruls hwf.1
 clear hwf
 simp only [argS]
 (refine go1 aj0 aj0 aj0 ?_; intros; refine mk_i ?_)
 refine DW_loop (X := {k : Nat // k ≤ l.length ∧ ∀ i x, i < k → l[i]? = some x → q x = false}) (fun x => ⟨[(0, dRuls l), (1, .fn (.func g) us cs), (7, .int .i64 l.length), (8, .int .i64 x.1)], []⟩) (fun x => l.length - x.1) ⟨0, by simp⟩ (Sub.lit (by simp)) ?_
 rintro ⟨k, hk, hno⟩
 by_cases hlt : k < l.length
 ·obtain ⟨x, hx, hx', hxm⟩ := at_lt' hlt
  have hqx := hq x hxm
  simp only [dRul, List.append_assoc, List.cons_append, List.nil_append] at hqx
  cases hb : q x
  ·rw [hb] at hqx
   have hno' : ∀ i y, i < k + 1 → l[i]? = some y → q y = false := by
    intro i y hi hy
    by_cases hik : i = k
    ·subst hik; rw [hx] at hy; simp only [Option.some.injEq] at hy; subst hy; exact hb
    ·exact hno i y (by omega) hy
   (refine go1 (aj1 hqx) aj0 (aj3 @dRul.eq_1 hlt hx') ?_; intros; refine mk_i ?_)
   exact Again.mk ⟨k + 1, by omega, hno'⟩ (Sub.lit (by simp [])) (by simp; omega)
   skip
  ·rw [hb] at hqx
   have hany : l.any q = true := List.any_eq_true.2 ⟨x, hxm, hb⟩
   have hidx : l.findIdx q = k := by
    rw [List.findIdx_eq hlt]
    refine ⟨by rw [hx']; exact hb, fun i hi => ?_⟩
    exact hno i _ hi (List.getElem?_eq_getElem (by omega))
   exact go0 (aj1 hqx) aj0 (aj5 @dRul.eq_1 hlt hx' hany hidx)
 ·have hkk : k = l.length := by omega
  have hany : l.any q = false := by
   rw [List.any_eq_false]
   intro x hx
   obtain ⟨i, hi, rfl⟩ := List.getElem_of_mem hx
   rw [hno i _ (by omega) (List.getElem?_eq_getElem hi)]
   simp
  (repeat (first | refine DW_seq fun K hK => ?_ | (refine DW_r anBN2256 Tryz.mixed (by kernel_rfl) ?_; simp [anBN2256, hnt, dRul, hkk, hany]; try simp (disch := omega) only [wrap64_in]) | refine DW_block ?_ | (refine DW_if ?_ ?_ ?_; (· (simp [hnt, dRul, hkk, hany]; done)); (try (rotate_left; (· (intro hc; (try simp [hnt, dRul, hkk, hany] at hc); done))))) | (refine DW_ret ?_; simp [Tryz.results256, hnt, dRul, hkk, hany]) | ((first | refine DW_exit ?_ | refine DW_skip ?_); simp [hnt, dRul, hkk, hany]) | (intro hc; (try simp [hnt, dRul, hkk, hany] at hc); (try (exfalso; omega))) | ((first | refine callP_mk (hqx) ?_ | (refine callP_wk (hqx) ?_ ?_; (· (simp; done)))); try simp [hnt, dRul, hkk, hany]) | (refine ⟨?_, ?_⟩; · omega) | omega | apply_assumption -exfalso -symm | (exfalso; omega)))
def anBN2188 : Ann := ⟨[], []⟩
theorem containsFuncR_pure (g : FuncId) (us cs : List DVal) (l : List Rul) (q : Rul → Bool) (hq : ∀ x ∈ l, DPure Tryz.prog g (us ++ [.agg (dRul x)] ++ cs) (.bool (q x))) :
  DPure Tryz.prog 188 [dRuls l, .fn (.func g) us cs] (.bool (l.any q)) := by
 refine DPure_introF [] (fn := Tryz.f188) Tryz.func188 rfl Tryz.call188 (by simp [Tryz.ntmps188]) (by simp [mx]) ?_
 intro hwf B hnt
 simp only [Tryz.ntmps188] at hnt
 have hA := an_is anBN2188 Tryz.mixed (aj2 @anBN2188.eq_1 Tryz.results188)
 simp only [argS]
 have hi := indexFuncR_pure g us cs l q hq
 have hge : (0 : Int) ≤ (l.findIdx q : Nat) := by omega
 cases hb : l.any q
 ·rw [hb] at hi
  exact go0 (aj1 hi) aj0 (aj1 hb)
 ·rw [hb] at hi
  exact go0 (aj1 hi) aj0 (aj1 hb)
def badR (r : Rul) : Bool := !(txtOK 2 r.h && wholeB r.b)
def anBN2190 : Ann := ⟨[], []⟩
theorem ord3_pure (r : Rul) (hs : r.b.length ≤ 1310720) : DPure Tryz.prog 190 [.agg (dRul r)] (.bool (badR r)) := by
 refine DPure_introF [] (fn := Tryz.f190) Tryz.func190 rfl Tryz.call190 (by simp [Tryz.ntmps190]) (by simp [mx]) ?_
 intro hwf B hnt
 simp only [Tryz.ntmps190] at hnt
 have hA := an_is anBN2190 Tryz.mixed (aj2 @anBN2190.eq_1 Tryz.results190)
 clear hwf
 simp only [argS]
 have e1 := headed191_pure r.h
 unfold badR
 cases h1 : txtOK 2 r.h
 ·rw [h1] at e1
  exact go0 (aj1 e1) aj0 (aj1 @dRul.eq_1)
 ·rw [h1] at e1
  cases h2 : wholeB r.b
  ·have e2 := height94_bad r.b hs h2
   exact go0 (aj2 e1 e2) aj0 (aj1 @dRul.eq_1)
  ·obtain ⟨t, ht, hb⟩ := whole_tree h2
   have e2 := height94_tree t ht (by rw [← hb]; exact hs)
   rw [← hb] at e2
   have hp : 1 ≤ htT t := by cases t; rw [htT_mk]; omega
   have hne : ((htT t : Int) == 0) = false := by simp; omega
   exact go0 (aj2 e1 e2) aj0 (aj2 @dRul.eq_1 hne)
def anBN2197 : Ann := ⟨[], []⟩
theorem ord7_pure (h : ByteArray) (t : RT) (ht : okT t = true) (hs : (flat t).length ≤ 1310720) : DPure Tryz.prog 197 [.agg (dRul ⟨h, flat t⟩)] (.bool (decide (16 < htT t))) := by
 refine DPure_introF [] (fn := Tryz.f197) Tryz.func197 rfl Tryz.call197 (by simp [Tryz.ntmps197]) (by simp [mx]) ?_
 intro hwf B hnt
 simp only [Tryz.ntmps197] at hnt
 have hA := an_is anBN2197 Tryz.mixed (aj2 @anBN2197.eq_1 Tryz.results197)
 clear hwf
 simp only [argS]
 have e2 := height94_tree t ht hs
 have hd : decide (16 < htT t) = decide ((16 : Int) < (htT t : Int)) := decide_eq_decide.2 (by omega)
 rw [hd]
 exact go0 (aj1 e2) aj0 (aj1 @dRul.eq_1)
def anBN2187 : Ann := ⟨[], []⟩
theorem ord1_pure (f : FuncId) (g : List Rul) (q : Rul → Bool) (hq : ∀ x ∈ g, DPure Tryz.prog f [.agg (dRul x)] (.bool (q x))) : DPure Tryz.prog 187 [dRuls g, .ref [.fn (.func f) [] []]] (.bool (g.any q)) := by
 refine DPure_introF [] (fn := Tryz.f187) Tryz.func187 rfl Tryz.call187 (by simp [Tryz.ntmps187]) (by simp [mx]) ?_
 intro hwf B hnt
 simp only [Tryz.ntmps187] at hnt
 have hA := an_is anBN2187 Tryz.mixed (aj2 @anBN2187.eq_1 Tryz.results187)
 clear hwf
 simp only [argS]
 have e1 := containsFuncR_pure f [] [] g q fun x hx => by simpa using hq x hx
 exact go0 (aj1 e1) aj0 aj0
def anBN2189 : Ann := ⟨[], []⟩
theorem ord2_pure (g : List Rul) : DPure Tryz.prog 189 [dRuls g] (.bool (decide (g.length < 1) || decide (64 < g.length))) := by
 refine DPure_introF [] (fn := Tryz.f189) Tryz.func189 rfl Tryz.call189 (by simp [Tryz.ntmps189]) (by simp [mx]) ?_
 intro hwf B hnt
 simp only [Tryz.ntmps189] at hnt
 have hA := an_is anBN2189 Tryz.mixed (aj2 @anBN2189.eq_1 Tryz.results189)
 clear hwf
 simp only [argS]
 have h1 : decide (g.length < 1) = decide ((g.length : Int) < 1) := decide_eq_decide.2 (by omega)
 have h2 : decide (64 < g.length) = decide ((64 : Int) < (g.length : Int)) := decide_eq_decide.2 (by omega)
 rw [h1, h2]
 by_cases c : (g.length : Int) < 1
 ·exact go0 aj0 aj0 (aj1 c)
 ·exact go0 aj0 aj0 (aj1 c)
def anBN2198 : Ann := ⟨[], []⟩
theorem ord8_pure (g : List Rul) (hn : (namesK 2 g).length ≤ 9223372036854775807) : DPure Tryz.prog 198 [dRuls g] (.bool (decide (0 < (missL g).length))) := by
 refine DPure_introF [] (fn := Tryz.f198) Tryz.func198 rfl Tryz.call198 (by simp [Tryz.ntmps198]) (by simp [mx]) ?_
 intro hwf B hnt
 simp only [Tryz.ntmps198] at hnt
 have hA := an_is anBN2198 Tryz.mixed (aj2 @anBN2198.eq_1 Tryz.results198)
 clear hwf
 simp only [argS]
 have e1 := missing194_pure g hn
 have h2 : decide (0 < (missL g).length) = decide ((0 : Int) < ((missL g).length : Int)) := decide_eq_decide.2 (by omega)
 rw [h2]
 exact go0 (aj1 e1) aj0 aj0
def anBN2193 : Ann := ⟨[], []⟩
theorem ord4_pure (g : List Rul) (hl : g.length ≤ 64) (hs : SmlG g) : DPure Tryz.prog 193 [dRuls g] (.bool (decide (16 < (headsL g).length + (missL g).length))) := by
 refine DPure_introF [] (fn := Tryz.f193) Tryz.func193 rfl Tryz.call193 (by simp [Tryz.ntmps193]) (by simp [mx]) ?_
 intro hwf B hnt
 simp only [Tryz.ntmps193] at hnt
 have hA := an_is anBN2193 Tryz.mixed (aj2 @anBN2193.eq_1 Tryz.results193)
 clear hwf
 simp only [argS]
 have n2 := names_le (k := 2) hs
 have e1 := missing194_pure g (by omega)
 have e2 := heads64_pure g
 have b1 := headsL_len g
 have b2 : (missL g).length ≤ 100000000 := by
  have := uniqS_len (namesK 2 g)
  have := List.length_filter_le (fun s => !decide (s ∈ headsL g)) (uniqS (namesK 2 g))
  unfold missL
  omega
 obtain ⟨H, hH⟩ : ∃ H, H = headsL g := ⟨_, rfl⟩
 obtain ⟨m, hm⟩ : ∃ m, m = (missL g).length := ⟨_, rfl⟩
 rw [← hH] at e2 b1
 rw [← hm] at e1 b2
 rw [← hH, ← hm]
 have h2 : decide (16 < H.length + m) = decide ((16 : Int) < (H.length : Int) + (m : Int)) := decide_eq_decide.2 (by omega)
 rw [h2]
 have w1 : IntKind.i64.wrap ((H.length : Int) + (m : Int)) = (H.length : Int) + (m : Int) := wrap64_in (by omega) (by omega)
 exact go0 (aj2 e1 e2) aj0 (aj1 w1)
def anBN259 : Ann := ⟨[], [⟨4, [5], [], []⟩]⟩
theorem occ59_pure (g : List Rul) (hs : SmlG g) (hl : g.length ≤ 64) : DPure Tryz.prog 59 [dRuls g] (.int .i64 (occG g)) := by
 refine DPure_introF [] (fn := Tryz.f59) Tryz.func59 rfl Tryz.call59 (by simp [Tryz.ntmps59]) (by simp [mx]) ?_
 intro hwf B hnt
 simp only [Tryz.ntmps59] at hnt
 have hA := an_is anBN259 Tryz.mixed (aj2 @anBN259.eq_1 Tryz.results59)
 clear hwf
 simp only [argS]
 have ho := occG_le hs
 (refine go1 aj0 aj0 aj0 ?_; intros; refine mk_i ?_)
 refine DW_loop (X := {i : Nat // i ≤ g.length}) (fun i => ⟨[(0, dRuls g), (3, .int .i64 (occG (g.take i.1))), (6, dRuls g), (7, .int .i64 g.length), (8, .int .i64 i.1)], []⟩) (fun i => g.length - i.1) ⟨0, by omega⟩ (Sub.lit (by simp [occG])) ?_
 rintro ⟨i, hi⟩
 simp only
 by_cases hlt : i < g.length
 ·obtain ⟨r, hr, hr', hrm⟩ := at_lt' hlt
  have e1 := occ13_pure r.b
  have h1 := occG_take hr
  have h2 := occG_take_le g (i + 1)
  have h3 := occN_le r.b
  have w1 : IntKind.i64.wrap ((occG (g.take i) : Int) + (occN r.b : Int)) = (occG (g.take (i + 1)) : Int) := by rw [wrap64_in (by omega) (by omega)]; omega
  have w2 : IntKind.i64.wrap ((i : Int) + 1) = (i : Int) + 1 := wrap64_in (by omega) (by omega)
  (refine go1 (aj1 e1) aj0 (aj6 @dRul.eq_1 hlt hr hr' w1 w2) ?_; intros; refine mk_i ?_)
  refine Again.mk ⟨i + 1, by omega⟩ (Sub.lit (by simp)) (by simp; omega)
  skip
 ·have hkk : i = g.length := by omega
  subst hkk
  rw [List.take_length]
  exact go0 aj0 aj0 aj0
def anBN2196 : Ann := ⟨[], []⟩
theorem ord6_pure (g : List Rul) (hs : SmlG g) (hl : g.length ≤ 64) : DPure Tryz.prog 196 [dRuls g] (.bool (decide (64 < occG g))) := by
 refine DPure_introF [] (fn := Tryz.f196) Tryz.func196 rfl Tryz.call196 (by simp [Tryz.ntmps196]) (by simp [mx]) ?_
 intro hwf B hnt
 simp only [Tryz.ntmps196] at hnt
 have hA := an_is anBN2196 Tryz.mixed (aj2 @anBN2196.eq_1 Tryz.results196)
 clear hwf
 simp only [argS]
 have e1 := occ59_pure g hs hl
 have h2 : decide (64 < occG g) = decide ((64 : Int) < (occG g : Int)) := decide_eq_decide.2 (by omega)
 rw [h2]
 exact go0 (aj1 e1) aj0 aj0
def printOK (t : RT) : Bool := decide ((flat t).length ≤ 2048) && decide (boundI t = 0)
def printD (t : RT) : DVal := if (flat t).length ≤ 2048 then (if boundI t = 0 then .tup [.str (txtT t), .int .i64 0] else .tup [.str ⟨#[]⟩, .int .i64 (boundI t)]) else .tup [.str ⟨#[]⟩, .int .i64 3]
def anBN2257 : Ann := ⟨[], []⟩
theorem print257_pure (t : RT) (ht : okT t = true) : DPure Tryz.prog 257 [dNds (flat t)] (printD t) := by
 unfold printD
 by_cases hl : (flat t).length ≤ 2048
 ·rw [if_pos hl]
  have e1 := check23_tree t ht hl
  have e2 := text110_pure _ t rfl ht (by omega)
  obtain ⟨b, hb⟩ : ∃ b, b = flat t := ⟨_, rfl⟩
  rw [← hb] at e1 e2 ⊢
  by_cases h0 : boundI t = 0
  ·rw [if_pos h0]
   rw [h0] at e1
   refine DPure_introF [] (fn := Tryz.f257) Tryz.func257 rfl Tryz.call257 (by simp [Tryz.ntmps257]) (by simp [mx]) ?_
   intro hwf B hnt
   simp only [Tryz.ntmps257] at hnt
   have hA := an_is anBN2257 Tryz.mixed (aj2 @anBN2257.eq_1 Tryz.results257)
   clear hwf
   simp only [argS]
   exact go0 (aj2 e1 e2) aj0 aj0
  ·rw [if_neg h0]
   have h0' : (boundI t != 0) = true := by simpa using h0
   refine DPure_introF [] (fn := Tryz.f257) Tryz.func257 rfl Tryz.call257 (by simp [Tryz.ntmps257]) (by simp [mx]) ?_
   intro hwf B hnt
   simp only [Tryz.ntmps257] at hnt
   have hA := an_is anBN2257 Tryz.mixed (aj2 @anBN2257.eq_1 Tryz.results257)
   clear hwf
   simp only [argS]
   have z0 : (⟨#[]⟩ : ByteArray).size ≤ maxLen := Nat.zero_le _
   exact go0 (aj1 e1) aj0 (aj3 h0 h0' z0)
 ·rw [if_neg hl]
  have e1 := check23_long (flat t) (by omega)
  obtain ⟨b, hb⟩ : ∃ b, b = flat t := ⟨_, rfl⟩
  rw [← hb] at e1 ⊢
  refine DPure_introF [] (fn := Tryz.f257) Tryz.func257 rfl Tryz.call257 (by simp [Tryz.ntmps257]) (by simp [mx]) ?_
  intro hwf B hnt
  simp only [Tryz.ntmps257] at hnt
  have hA := an_is anBN2257 Tryz.mixed (aj2 @anBN2257.eq_1 Tryz.results257)
  clear hwf
  simp only [argS]
  have z0 : (⟨#[]⟩ : ByteArray).size ≤ maxLen := Nat.zero_le _
  exact go0 (aj1 e1) aj0 (aj1 z0)
end Go.Proofs.YtdgocjbakjamaaaGreat
end

section
namespace Go.Proofs.YtdgocjbakjamaaaGreat
open Go Go.Dm
variable [DMode]
attribute [local irreducible] DW callP callS
set_option maxRecDepth 100000
theorem stringKeep_spec (x : ByteArray) (hx : x.size ≠ 0) : DSpec Tryz.prog (.func 259) [.rx 0 0 2 0 0] [⟨0, 0, .row 299 2 32 [[.rx 0 0 2 0 0, .osl 1 0]]⟩, ⟨1, 0, .row 5 1 1 (bytesD x)⟩] (.str x) [⟨0, 0, .row 299 2 32 [[.rx 0 0 2 0 0, .sl 1 1 (bytesD x)]]⟩] :=
 builderString_spec2k Tryz.bldString bldExtra Tryz.call259 32 x hx
def anBN5260 : Ann := ⟨[], []⟩
theorem len260_spec (x : ByteArray) : DSpec Tryz.prog (.func 260) [.rx 0 0 2 0 0] [⟨0, 0, .row 299 2 32 [[.rx 0 0 2 0 0, .sl 1 1 (bytesD x)]]⟩] (.int .i64 x.size) [⟨0, 0, .row 299 2 32 [[.rx 0 0 2 0 0, .sl 1 1 (bytesD x)]]⟩] := by
 refine DSpec_intro [] [(0, 0, 0)] (fn := Tryz.f260) Tryz.func260 rfl Tryz.call260 (by simp [Tryz.ntmps260]) (by simp) (by simp [mx_bytesD]) ?_
 intro hwf B hnt
 simp only [Tryz.ntmps260] at hnt
 have hA := an_is anBN5260 Tryz.mixed (aj2 @anBN5260.eq_1 Tryz.results260)
 clear hwf
 simp only [argS]
 have h1 := bytesD_len x
 have h2 := mx_bytesD x
 obtain ⟨D, hD⟩ : ∃ D, D = bytesD x := ⟨_, rfl⟩
 rw [← hD] at h1 h2 ⊢
 exact go0 aj0 aj0 (aj1 h1)
theorem ruleT_pos (p : ByteArray × RT) : (ruleT p).size ≠ 0 := by
 unfold ruleT
 simp only [ByteArray.size_append]
 have z3 : (⟨#[32, 61, 32]⟩ : ByteArray).size = 3 := rfl
 omega
def okText (gt : GT) : Bool := gt.all (fun p => printOK p.2) && decide ((textG gt).size ≤ 2048)
def textR (gt : GT) : ByteArray := if gt.all (fun p => printOK p.2) then textG gt else ⟨#[]⟩
theorem textG_pos {gt : GT} (h : 1 ≤ gt.length) : (textG gt).size ≠ 0 := by
 have h1 := textG_take (List.getElem?_eq_getElem (show 0 < gt.length by omega))
 have h2 := textG_take_le gt 1
 rw [h1, ByteArray.size_append] at h2
 have := ruleT_pos (gt[0]'(by omega))
 omega
def anBN5200 : Ann := ⟨[29, 31, 32], [⟨1, [4], [], []⟩, ⟨4, [6], [], []⟩]⟩
set_option maxHeartbeats 4000000 in
theorem text200_pure (gt : GT) (hk : OkG gt) (hs : SmlG (mkG gt)) (h1 : 1 ≤ gt.length) (hl : gt.length ≤ 64) : DPure Tryz.prog 200 [dRuls (mkG gt)] (.tup [.str (textR gt), .bool (okText gt)]) := by
 refine DPure_introF [] (fn := Tryz.f200) Tryz.func200 rfl Tryz.call200 (by simp [Tryz.ntmps200]) (by simp [mx]) ?_
 intro hwf B hnt
 simp only [Tryz.ntmps200] at hnt
 have hA := an_is anBN5200 Tryz.mixed (aj2 @anBN5200.eq_1 Tryz.results200)
 clear hwf
 simp only [argS]
 have hml := mkG_len gt
 have hat := fun i p => mkG_at (gt := gt) (i := i) (p := p)
 have hsm := fun p => small_gt hs (p := p)
 have hts := textG_size hk hs
 have hrs := fun p => ruleT_size hk hs (p := p)
 obtain ⟨g, hg⟩ : ∃ g, g = mkG gt := ⟨_, rfl⟩
 rw [← hg] at hml hat ⊢
 clear hs hg
 obtain ⟨R, hR⟩ : ∃ R, R = textR gt := ⟨_, rfl⟩
 obtain ⟨O, hO⟩ : ∃ O, O = okText gt := ⟨_, rfl⟩
 rw [← hR, ← hO]
 have z3 : (⟨#[32, 61, 32]⟩ : ByteArray).size = 3 := rfl
 have z4 : (⟨#[32, 59, 10]⟩ : ByteArray).size = 3 := rfl
 have m3 : 3 ≤ maxLen := by decide
 have m1 : 1 ≤ maxLen := by decide
 have mbig : 3000000000 ≤ maxLen := by decide
 have z0 : (⟨#[]⟩ : ByteArray).size ≤ maxLen := Nat.zero_le _
 refine DW_seq fun K0 hK0 => ?_
 (first | refine DW_seq fun K hK => ?_ | (refine DW_r anBN5200 Tryz.mixed (by kernel_rfl) ?_; simp [anBN5200, hnt, z0]; try simp (disch := omega) only [wrap64_in]) | refine DW_block ?_ | (refine DW_if ?_ ?_ ?_; (· (simp [hnt, z0]; done)); (try (rotate_left; (· (intro hc; (try simp [hnt, z0] at hc); done))))) | (refine DW_ret ?_; simp [Tryz.results200, hnt, z0]) | ((first | refine DW_exit ?_ | refine DW_skip ?_); simp [hnt, z0]) | (intro hc; (try simp [hnt, z0] at hc); (try (exfalso; omega))) | (refine ⟨?_, ?_⟩; · omega) | omega | apply_assumption -exfalso -symm | (exfalso; omega))
 apply hK0
 refine DW_seq fun K1 hK1 => ?_
 refine DW_allocT (bs := 32) (k := 2) (z := [.nilp, .nilsl]) (by simp [hnt]) (by simp) (by rfl) rfl (by decide) (fun r hr => ?_)
 simp
 apply hK1
 (refine go1 aj0 aj0 aj0 ?_; intros; refine mk_i ?_)
 refine DW_loop (X := {i : Nat // i ≤ gt.length ∧ (gt.take i).all (fun p => printOK p.2) = true}) (fun i => ⟨[(0, dRuls g), (4, .rx 4 1 2 0 0), (9, dRuls g), (10, .int .i64 gt.length), (11, .int .i64 i.1)], bldO 4 50 (textG (gt.take i.1))⟩) (fun i => gt.length - i.1) ⟨0, by simp⟩ (Sub.lit (by simp only [List.take_zero, show textG [] = ⟨#[]⟩ from rfl, bldO_none (T := ⟨#[]⟩) rfl]; simp [hml])) ?_
 rintro ⟨i, hi, hall⟩
 simp only
 by_cases hlt : i < gt.length
 ·obtain ⟨p, hp, hp', hpm⟩ := at_lt' hlt
  have hr := hat i p hp
  have hlt2 : i < g.length := by omega
  have hr' : g[i]'hlt2 = ⟨p.1, flat p.2⟩ := (List.getElem?_eq_some_iff.1 hr).2
  have e1 := print257_pure p.2 (hk p hpm).2
  have w2 : IntKind.i64.wrap ((i : Int) + 1) = (i : Int) + 1 := wrap64_in (by omega) (by omega)
  unfold printD at e1
  obtain ⟨b, hb⟩ : ∃ b, b = flat p.2 := ⟨_, rfl⟩
  have hall1 : (gt.take (i + 1)).all (fun p => printOK p.2) = printOK p.2 := by rw [List.take_add_one, hp, List.all_append, hall]; simp
  by_cases hpr : printOK p.2 = true
  ·have hpr2 := hpr
   unfold printOK at hpr2
   rw [Bool.and_eq_true, decide_eq_true_eq, decide_eq_true_eq] at hpr2
   rw [if_pos hpr2.1, if_pos hpr2.2] at e1
   rw [← hb] at hr hr' e1
   rw [hpr] at hall1
   have hnx := textG_take hp
   have hrs1 := hrs p hpm
   have hts1 := hts i hi
   have hrp := ruleT_pos p
   have hrd : ruleT p = p.1 ++ ⟨#[32, 61, 32]⟩ ++ txtT p.2 ++ ⟨#[32, 59, 10]⟩ := rfl
   obtain ⟨s, hs⟩ : ∃ s, s = txtT p.2 := ⟨_, rfl⟩
   rw [← hs] at e1 hrd
   obtain ⟨T, hT⟩ : ∃ T, T = textG (gt.take i) := ⟨_, rfl⟩
   rw [← hT] at hnx hts1 ⊢
   obtain ⟨U, hU⟩ : ∃ U, U = ruleT p := ⟨_, rfl⟩
   rw [← hU] at hrs1 hrp hrd hnx
   have hUs : U.size = p.1.size + 3 + s.size + 3 := by rw [hrd]; simp only [ByteArray.size_append, z3, z4]
   have y2 : p.1.size + 3 ≤ maxLen := by omega
   have y3 : p.1.size + 3 + s.size ≤ maxLen := by omega
   have y4 : p.1.size + 3 + s.size + 3 ≤ maxLen := by omega
   have hNs : (textG (gt.take (i + 1))).size ≠ 0 := by rw [hnx, ByteArray.size_append]; omega
   have hnew := bldO_some (i := 4) (j := 50) hNs
   by_cases hT0 : T.size = 0
   ·rw [bldO_none hT0]
    have e2 := writeFirst_spec U (by omega)
    rw [size0 hT0, empty_app] at hnx
    rw [hrd] at e2
    (refine go1 (aj1 e1) (aj1 (spc [(4,0)] [(50,1)] e2)) (aj14 @dRul.eq_1 hlt hlt2 hr hr' z3 z4 m3 m1 y2 y3 y4 @ByteArray.size_append w2) ?_; intros; refine mk_i ?_)
    refine Again.mk ⟨i + 1, by omega, hall1⟩ (Sub.lit (by rw [hnew, hnx, hrd]; simp)) (by simp; omega)
    skip
   ·rw [bldO_some hT0]
    have e2 := writeUsed_spec T U (by omega)
    rw [← hnx] at e2
    rw [hrd] at e2
    (refine go1 (aj1 e1) (aj1 (spc [(4,0),(50,1)] [] e2)) (aj14 @dRul.eq_1 hlt hlt2 hr hr' z3 z4 m3 m1 y2 y3 y4 @ByteArray.size_append w2) ?_; intros; refine mk_i ?_)
    refine Again.mk ⟨i + 1, by omega, hall1⟩ (Sub.lit (by rw [hnew]; simp)) (by simp; omega)
    skip
  ·have hall2 : gt.all (fun p => printOK p.2) = false := by
    rw [Bool.eq_false_iff]
    intro hh
    rw [List.all_eq_true] at hh
    exact hpr (hh p hpm)
   have hR2 : R = ⟨#[]⟩ := by rw [hR]; unfold textR; rw [hall2]; rfl
   have hO2 : O = false := by rw [hO]; unfold okText; rw [hall2]; rfl
   subst hR2
   subst hO2
   obtain ⟨c, hc0, e2⟩ : ∃ c : Int, (c != 0) = true ∧ DPure Tryz.prog 257 [dNds (flat p.2)] (.tup [.str ⟨#[]⟩, .int .i64 c]) := by
    by_cases hl2 : (flat p.2).length ≤ 2048
    ·rw [if_pos hl2] at e1
     by_cases h0 : boundI p.2 = 0
     ·exact absurd (by unfold printOK; simp [hl2, h0]) hpr
     ·rw [if_neg h0] at e1
      exact ⟨_, by simpa using h0, e1⟩
    ·rw [if_neg hl2] at e1
     exact ⟨3, rfl, e1⟩
   have hc1 : ¬ c = 0 := by simpa using hc0
   rw [← hb] at hr hr' e2
   obtain ⟨T, hT⟩ : ∃ T, T = textG (gt.take i) := ⟨_, rfl⟩
   rw [← hT]
   clear e1
   by_cases hT0 : T.size = 0
   ·rw [bldO_none hT0]
    exact go0 (aj1 e2) aj0 (aj8 @dRul.eq_1 hlt hlt2 hr hr' hc0 hc1 z0)
   ·rw [bldO_some hT0]
    exact go0 (aj1 e2) aj0 (aj8 @dRul.eq_1 hlt hlt2 hr hr' hc0 hc1 z0)
 ·have hkk : i = gt.length := by omega
  subst hkk
  rw [List.take_length] at hall ⊢
  have hne := textG_pos h1
  have hts1 := hts gt.length (Nat.le_refl _)
  rw [List.take_length] at hts1
  have hR2 : R = textG gt := by rw [hR]; unfold textR; rw [hall]; rfl
  have hO2 : O = decide ((textG gt).size ≤ 2048) := by rw [hO]; unfold okText; rw [hall]; rfl
  obtain ⟨T, hT⟩ : ∃ T, T = textG gt := ⟨_, rfl⟩
  rw [← hT] at hne hR2 hO2 hts1 ⊢
  have hO3 : decide (T.size ≤ 2048) = decide ((T.size : Int) ≤ 2048) := decide_eq_decide.2 (by omega)
  rw [hO3] at hO2
  clear hR hO hO3
  subst hR2
  subst hO2
  rw [bldO_some hne]
  have e1 := stringKeep_spec R hne
  have e2 := len260_spec R
  have h2 := mx_bytesD R
  exact go0 aj0 (aj2 (spc [(4,0),(50,1)] [] e1) (spc [(4,0)] [] e2)) (aj1 hml)
end Go.Proofs.YtdgocjbakjamaaaGreat
end

section
namespace Go.Proofs.YtdgocjbakjamaaaGreat
open Go Go.Dm Go.RowKit Go.Maps Go.Sort Go.Shelf Go.Proofs
set_option maxRecDepth 100000
theorem sortsS (m : Nat) : AnyZ.SortsIn Tryz.prog Tryz.sortedM_ren Fence.wide m :=
 ⟨fun blk off cap ss W hH hblk hsz => callsIn_wide.2 (AnyM.slices_Sort_string Tryz.sortStr blk off cap ss W hH hblk hsz),
  fun p cap W => callsIn_wide.2 (AnyM.slices_Sort_string_none Tryz.sortStr p cap W)⟩
theorem strs_vals {cur : Cur} {M : List Nat} {h : Array Obj} : ∀ {K : List ByteArray} {vs : List Value}, rdV cur M h (strsD K) vs → vs = K.map Value.string ∧ ∀ s ∈ K, s.size ≤ maxLen
 | [], vs, hr => by
  simp only [strsD, List.map_nil, rdV] at hr
  subst hr
  simp
 | s :: K, vs, hr => by
  rw [strsD_cons] at hr
  simp only [rdV, Dm.rd] at hr
  obtain ⟨v, r, rfl, ⟨rfl, hs⟩, h2⟩ := hr
  obtain ⟨h3, h4⟩ := strs_vals h2
  subst h3
  refine ⟨rfl, fun x hx => ?_⟩
  rcases List.mem_cons.1 hx with rfl | hx
  ·exact hs
  ·exact h4 x hx
def anyR : Value → Option (DataW Unit × List MemPlace) := fun _ => some (.nil, [])
theorem owns_of {w : World} {b : Nat} {es : Array MapEntry} {clk : Nat} {K : List ByteArray} (hb : w.heap[b]? = some (.map es clk)) (hB : bornOK es clk) (hk : es.toList.map (·.key) = K.map Value.string) (hsz : ∀ s ∈ K, s.size ≤ maxLen) (hn : K.Nodup) (hl : K.length ≤ maxLen) :
  ∃ D0 : DataW Unit, w.ownsMap Tryz.prog 9 anyR b K.length D0 ∧ (strKeys D0).Perm (K.map fun s => s.data.toList) ∧ Maps.size D0 = K.length := by
 have hes : es.size = K.length := by
  have := congrArg List.length hk
  simpa using this
 have hread : ∀ x ∈ es.toList, ∃ s ∈ K, x.key = .string s ∧ WideElems.rd Tryz.prog 9 anyR x = some (.string s.data.toList, .nil) := by
  intro x hx
  have : x.key ∈ K.map Value.string := by rw [← hk]; exact List.mem_map_of_mem hx
  obtain ⟨s, hs, he⟩ := List.mem_map.1 this
  refine ⟨s, hs, he.symm, ?_⟩
  obtain ⟨k, v, bn⟩ := x
  simp only at he
  subst he
  exact WideElems.rd_mk (WideMaps.keyOf_string_mk Tryz.underlying9 (hsz s hs)) (show anyR v = some (.nil, []) from rfl)
 have hE : es.toList.map (WideElems.rg Tryz.prog 9 anyR) = K.map fun s => (Lit.string s.data.toList, DataW.nil) := by
  have h1 : es.toList.map (WideElems.rg Tryz.prog 9 anyR) = (es.toList.map (·.key)).map fun v => match v with | .string s => (Lit.string s.data.toList, DataW.nil) | _ => (.bool false, .nil) := by
   rw [List.map_map]
   refine List.map_congr_left fun x hx => ?_
   obtain ⟨s, _, he, hr⟩ := hread x hx
   rw [WideElems.rg_of hr]
   simp [he]
  rw [h1, hk, List.map_map]
  rfl
 refine ⟨_, ⟨es, clk, hb, ⟨by omega, ⟨hB.2, hB.1, ?_⟩, fun x hx => ?_⟩, by omega, rfl⟩, ?_, ?_⟩
 ·rw [hk]
  exact List.pairwise_map.2 (hn.imp fun h e => h (by cases e; rfl))
 ·obtain ⟨s, _, _, hr⟩ := hread x hx
  exact ⟨_, hr⟩
 ·show ((_ : List (Lit × DataW Unit)).map fun p => strOf p.1).Perm _
  refine ((WideShapes.sorted_perm _).map _).trans ?_
  rw [hE, List.map_map]
  exact List.Perm.refl _
 ·show (_ : List (Lit × DataW Unit)).length = _
  rw [(WideShapes.sorted_perm _).length_eq, hE, List.length_map]
theorem upd_below {w w' : World} (h : Below w.heap.size w w') : Upd [] w w' := ⟨h.os, h.tape, h.output, fun hd => Bool.noConfusion hd, h.size, fun b hb _ => h.block b hb⟩
theorem ssort_strict {K : List ByteArray} (hn : K.Nodup) : Str (ssort K) := by
 have h1 := ssort_sorted K
 have h2 : (ssort K).Nodup := by
  unfold ssort
  refine List.pairwise_map.2 (List.Pairwise.imp (R := (· ≠ ·)) (fun {a b : List UInt8} h (e : (⟨a.toArray⟩ : ByteArray) = ⟨b.toArray⟩) => h (by have := congrArg (fun x : ByteArray => x.data.toList) e; simpa using this)) ?_)
  exact (List.mergeSort_perm _ _).nodup_iff.2 (List.pairwise_map.2 (hn.imp fun h e => h (bytes_ext e)))
 refine (h1.and h2).imp ?_
 rintro a b ⟨h3, h4⟩
 cases h5 : sLess a b
 ·exact absurd (sLess_tri h5 h3) h4
 ·rfl
theorem ssort_uniq {K es : List ByteArray} (hn : K.Nodup) (hm : ∀ s, s ∈ K ↔ s ∈ es) : ssort K = uniqS es := uniq_of (ssort_strict hn) fun x => by rw [ssort_mem, hm x]
set_option maxHeartbeats 2000000 in
theorem labels65_pure (g : List Rul) (hsm : (namesK 3 g).length * 16 ≤ 140737488355328) : DPure Tryz.prog 65 [dRuls g] (dStrs (labelsL' g)) := by
 refine ⟨Tryz.call65, by simp [mx], fun cur M w vs hM hr => ?_⟩
 simp only [rdV] at hr
 obtain ⟨v0, r0, hvs, h0, rfl⟩ := hr
 have hvs' : vs = #[v0] := by cases vs; simpa using hvs
 subst hvs'
 have hok := cnt_ok (namesK 3 g)
 have hN := names131_spec g 3
 obtain ⟨m, hm⟩ : ∃ m, m = cntL (namesK 3 g) := ⟨_, rfl⟩
 rw [← hm] at hN hok
 obtain ⟨_, _, hN⟩ := hN
 have hN := (hN M w (fun _ => ⟨[], Go.undef⟩) #[v0, .int .i64 3] ⟨by simp, by simp [hotOf], by simp [hotOf], fun b hb => hM b (by simpa [hotOf] using hb), by simp⟩ (by
  simp only [rdV]
  refine ⟨v0, _, rfl, ?_, _, _, rfl, by simp [Dm.rd], rfl⟩
  exact rd_weak (n := 0) ⟨fun _ _ _ h _ => absurd h (Nat.not_lt_zero _), fun _ _ _ _ h => h, fun b _ hb _ _ hm => hb (by simpa [hotOf] using hm)⟩ _ _ (by simp [mx]) h0)).2
 have cK : ∀ mb W, CallsIn Fence.wide 5 Tryz.prog 130 #[.map mb] W fun e w' => e = .returned (.func (.func 204) #[] #[.pointer (some ⟨W.heap.size, 0, none⟩)]) ∧ w' = W.alloc (.cells #[.map mb] 190) := fun mb W => AnyZ.keys_in Tryz.keysM Fence.wide 5 trivial rfl mb W
 have hf1 : Fence.wide.fn 131 := trivial
 have hf2 : Fence.wide.fn 130 := trivial
 have hf3 : Fence.wide.fn 129 := trivial
 refine (callsIn_wide (n := 6)).1 ?_
 refine callsIn_of_wp Tryz.func65 rfl trivial ?_ rfl
 simp only [Tryz.ntmps65, List.size_toArray, List.length_cons, List.length_nil, Nat.reduceAdd, Nat.reduceSub, Array.replicate_succ, Array.replicate_zero, List.push_toArray, List.append_toArray, List.nil_append, List.cons_append]
 gi_wp2_with (gi_at_call 131; refine (callsIn_wide.2 hN).mono ?_; rintro e w1 ⟨v1, rfl, loc1, S1, U1, hnew1, hver1, hrd1⟩)
 simp only [Dm.rd] at hrd1
 obtain ⟨b, hb1, rfl⟩ := hrd1 (loc1 0) rfl
 have hO := S1.ok _ (List.mem_singleton.2 rfl)
 obtain ⟨b', es, clk, hb2, hheap, hborn, hkeys, _⟩ := hO
 simp only at hb2
 rw [hb1] at hb2
 simp only [List.cons.injEq, and_true] at hb2
 subst hb2
 obtain ⟨hke, hks⟩ := strs_vals hkeys
 have hlen : m.K.length ≤ (namesK 3 g).length := hok.le
 have hmax : m.K.length ≤ maxLen := by unfold maxLen; omega
 have hblt : b < w1.heap.size := (Array.getElem?_eq_some_iff.1 hheap).1
 obtain ⟨D0, hown, hperm, hsize⟩ := owns_of (w := w1.alloc (.cells #[.map (some b)] 190)) (b := b) (by rw [← hheap]; simp only [World.alloc, Array.getElem?_push]; rw [if_neg (by omega)]) hborn hke hks hok.nd hmax
 gi_wp2_with (gi_at_call 130; refine (cK _ _).mono ?_; rintro e w2 ⟨rfl, rfl⟩)
 have hseq : SeqGives Fence.wide 2 Tryz.prog 204 #[.pointer (some ⟨w1.heap.size, 0, none⟩)] encStr (fun ss => ss.Perm (strKeys D0)) (Maps.size D0) (w1.alloc (.cells #[.map (some b)] 190)) :=
  AnyZ.keys_gives (ρ := Tryz.keysM_ren) { Tryz.keysM with } Fence.wide _ trivial rfl (by omega) w1.heap.size b m.K.length D0 _ (by simp) (by simp) hown
 have cS := AnyZ.sorted_in Tryz.sortedM Fence.wide 5 trivial trivial trivial trivial rfl (by omega) (sortsS _) (enters_of Tryz.func203 (by kernel_rfl) rfl) 204 #[.pointer (some ⟨w1.heap.size, 0, none⟩)] trivial (enters_of Tryz.func204 (by kernel_rfl) rfl) _ _ (by omega) (by omega) _ hseq
 change CallsIn _ _ Tryz.prog 129 _ _ _ at cS
 gi_wp2_with (gi_at_call 129; refine cS.mono ?_; rintro e w3 ⟨v, ss, rfl, hS, hrow, hnil, hb3⟩)
 go_ret
 have hU : Upd [] w w3 := (show Upd [] w w1 from U1).trans ((Upd.alloc [] w1 _).trans (upd_below hb3) (by simp)) (by simp)
 have hss : (ss.mergeSort fun x y => decide (x ≤ y)).map (fun x => (⟨x.toArray⟩ : ByteArray)) = labelsL' g := by
  have h1 : ss.mergeSort leB = (m.K.map fun s => s.data.toList).mergeSort leB := mergeSort_of_perm (hS.trans hperm)
  have h2 := ssort_uniq hok.nd hok.mem
  unfold ssort at h2
  unfold labelsL'
  rw [← h2, ← h1]
 have hssl : ss.length = m.K.length := by rw [hS.length_eq, hperm.length_eq, List.length_map]
 refine ⟨v, rfl, hU, ?_⟩
 simp only [Dm.rd]
 rw [← hss]
 obtain ⟨_, hrow⟩ := hrow
 rcases hrow with ⟨rfl, hz⟩ | ⟨gb, cap, cur2, rfl, hbase, hgb, r1, r2, r3, r4⟩
 ·have h0 : ss = [] := List.eq_nil_of_length_eq_zero hz
  subst h0
  exact ⟨none, 0, by simp, by simp, by simp, by simp, .inl ⟨by simp, fun _ => rfl⟩⟩
 ·have hml : (ss.mergeSort fun x y => decide (x ≤ y)).length = ss.length := List.length_mergeSort _
  refine ⟨some ⟨gb, 0, none⟩, cap, by simp, by simpa using r1, r2, ?_, .inr ⟨gb, 0, cur2, _, (0, 0), rfl, fun hm => ?_, hgb, ?_⟩⟩
  ·simp only [List.length_map, hml]; omega
  ·have h1 := hM gb hm
   have h2 := U1.size
   simp at hbase
   omega
  ·refine rdR_mk _ _ _ _ fun i cs hi => ?_
   rw [List.getElem?_map, List.getElem?_map, Option.map_map, Option.map_eq_some_iff] at hi
   obtain ⟨x, hx, rfl⟩ := hi
   refine ⟨rfl, ?_⟩
   have hil : i < ss.length := by have := (List.getElem?_eq_some_iff.1 hx).1; omega
   have hcell : cur2[i]? = some (encStr x) := by
    have h1 : (cur2.toList.take (ss.length * 1))[i]? = some (encStr x) := by rw [r4, List.getElem?_map, hx]; rfl
    rw [List.getElem?_take_of_lt (by omega)] at h1
    simpa using h1
   have hxs : x.length ≤ maxLen := by
    have h1 : x ∈ m.K.map fun s => s.data.toList := (hS.trans hperm).mem_iff.1 ((List.mergeSort_perm ss _).mem_iff.1 (List.mem_of_getElem? hx))
    obtain ⟨s, hs, rfl⟩ := List.mem_map.1 h1
    exact hks s hs
   simp only [Function.comp_apply, dStr, rdC, and_true]
   exact ⟨encStr x, by simpa using hcell, rfl, by simp only [Dm.rd]; exact ⟨trivial, hxs⟩⟩
end Go.Proofs.YtdgocjbakjamaaaGreat
end

section
namespace Go.Proofs.YtdgocjbakjamaaaGreat
open Go Go.Dm
attribute [local irreducible] DW callP callS
set_option maxRecDepth 100000
def anBN7195 : Ann := ⟨[], []⟩
theorem ord5_pure (g : List Rul) (hl : g.length ≤ 64) (hs : SmlG g) : DPure Tryz.prog 195 [dRuls g] (.bool (decide (16 < (labelsL' g).length))) := by
 refine DPure_introF [] (fn := Tryz.f195) Tryz.func195 rfl Tryz.call195 (by simp [Tryz.ntmps195]) (by simp [mx]) ?_
 intro hwf B hnt
 simp only [Tryz.ntmps195] at hnt
 have hA := an_is anBN7195 Tryz.mixed (aj2 @anBN7195.eq_1 Tryz.results195)
 clear hwf
 simp only [argS]
 have n3 := names_le (k := 3) hs
 have e1 := labels65_pure g (by omega)
 obtain ⟨H, hH⟩ : ∃ H, H = labelsL' g := ⟨_, rfl⟩
 rw [← hH] at e1
 rw [← hH]
 have h2 : decide (16 < H.length) = decide ((16 : Int) < (H.length : Int)) := decide_eq_decide.2 (by omega)
 rw [h2]
 exact go0 (aj1 e1) aj0 aj0
def anBN7199 : Ann := ⟨[], []⟩
theorem ord9_pure (gt : GT) (hk : OkG gt) (hs : SmlG (mkG gt)) (h1 : 1 ≤ gt.length) (hl : gt.length ≤ 64) : DPure Tryz.prog 199 [dRuls (mkG gt)] (.bool (!okText gt)) := by
 refine DPure_introF [] (fn := Tryz.f199) Tryz.func199 rfl Tryz.call199 (by simp [Tryz.ntmps199]) (by simp [mx]) ?_
 intro hwf B hnt
 simp only [Tryz.ntmps199] at hnt
 have hA := an_is anBN7199 Tryz.mixed (aj2 @anBN7199.eq_1 Tryz.results199)
 clear hwf
 simp only [argS]
 have e1 := text200_pure gt hk hs h1 hl
 obtain ⟨g, hg⟩ : ∃ g, g = mkG gt := ⟨_, rfl⟩
 rw [← hg] at e1 ⊢
 exact go0 (aj1 e1) aj0 aj0
def anBN7186 : Ann := ⟨[], []⟩
theorem ordF_pure (f : FuncId) : DPure Tryz.prog 186 [.fn (.func f) [] []] (.fn (.func 187) [] [.ref [.fn (.func f) [] []]]) := by
 refine DPure_introF [] (fn := Tryz.f186) Tryz.func186 rfl Tryz.call186 (by simp [Tryz.ntmps186]) (by simp [mx, mxL]) ?_
 intro hwf B hnt
 simp only [Tryz.ntmps186] at hnt
 have hA := an_is anBN7186 Tryz.mixed (aj2 @anBN7186.eq_1 Tryz.results186)
 clear hwf
 simp only [argS]
 exact go0 aj0 aj0 aj0
structure Ask where
 f : FuncId
 cs : List DVal
 b : Bool
 e : Int
def dAsk (x : Ask) : List DVal := [.fn (.func x.f) [] x.cs, .int .i64 x.e]
def asks (b1 b2 b3 b4 b5 b6 b7 b8 : Bool) : List Ask :=
 [⟨189, [], b1, 180⟩, ⟨187, [.ref [.fn (.func 190) [] []]], b2, 170⟩, ⟨193, [], b3, 181⟩, ⟨195, [], b4, 182⟩, ⟨196, [], b5, 183⟩, ⟨187, [.ref [.fn (.func 197) [] []]], b6, 171⟩, ⟨198, [], b7, 184⟩, ⟨199, [], b8, 174⟩]
def anBN7127 : Ann := ⟨[], []⟩
theorem order127_pure (b1 b2 b3 b4 b5 b6 b7 b8 : Bool) : DPure Tryz.prog 127 [] (.sl 2 16 ((asks b1 b2 b3 b4 b5 b6 b7 b8).map dAsk)) := by
 refine DPure_introF [] (fn := Tryz.f127) Tryz.func127 rfl Tryz.call127 (by simp [Tryz.ntmps127]) (by simp [mx, mxR, mxL, asks, dAsk]) ?_
 intro hwf B hnt
 simp only [Tryz.ntmps127] at hnt
 have hA := an_is anBN7127 Tryz.mixed (aj2 @anBN7127.eq_1 Tryz.results127)
 clear hwf
 simp only [argS, asks, dAsk, List.map_cons, List.map_nil]
 have e1 := ordF_pure 190
 have e2 := ordF_pure 197
 have r8 : List.range 8 = [0, 1, 2, 3, 4, 5, 6, 7] := rfl
 exact go0 (aj2 e1 e2) aj0 (aj1 r8)
def firstA : List Ask → Int
 | [] => 0
 | x :: l => if x.b then x.e else firstA l
def anBN763 : Ann := ⟨[], [⟨3, [4], [], []⟩]⟩
set_option maxHeartbeats 1000000 in
theorem check63_gen (g : List Rul) (l : List Ask) (hl8 : l.length = 8) (hmx : mxR (l.map dAsk) = 0) (ho : DPure Tryz.prog 127 [] (.sl 2 16 (l.map dAsk)))
  (hq : ∀ (k : Nat) (x : Ask), l[k]? = some x → (∀ (j : Nat) (y : Ask), j < k → l[j]? = some y → y.b = false) → DPure Tryz.prog x.f (dRuls g :: x.cs) (.bool x.b)) : DPure Tryz.prog 63 [dRuls g] (.int .i64 (firstA l)) := by
 refine DPure_introF [] (fn := Tryz.f63) Tryz.func63 rfl Tryz.call63 (by simp [Tryz.ntmps63]) (by simp [mx]) ?_
 intro hwf B hnt
 simp only [Tryz.ntmps63] at hnt
 have hA := an_is anBN763 Tryz.mixed (aj2 @anBN763.eq_1 Tryz.results63)
 clear hwf
 simp only [argS]
 obtain ⟨R, hR⟩ : ∃ R, R = firstA l := ⟨_, rfl⟩
 rw [← hR]
 (refine go1 (aj1 ho) aj0 aj0 ?_; intros; refine mk_i ?_)
 refine DW_loop (X := {k : Nat // k ≤ l.length ∧ R = firstA (l.drop k) ∧ ∀ (j : Nat) (y : Ask), j < k → l[j]? = some y → y.b = false}) (fun x => ⟨[(0, dRuls g), (5, .sl 2 16 (l.map dAsk)), (6, .int .i64 l.length), (7, .int .i64 x.1)], []⟩) (fun x => l.length - x.1) ⟨0, by simp [hR]⟩ (Sub.lit (by simp [hmx])) ?_
 clear hR
 rintro ⟨k, hk, hR, hno⟩
 by_cases hlt : k < l.length
 ·obtain ⟨x, hx, hx', hxm⟩ := at_lt' hlt
  rw [List.drop_eq_getElem_cons hlt, hx', firstA] at hR
  have e1 := hq k x hx hno
  cases hb : x.b
  ·rw [hb] at e1 hR
   simp only [Bool.false_eq_true, if_false] at hR
   have hno' : ∀ (j : Nat) (y : Ask), j < k + 1 → l[j]? = some y → y.b = false := by
    intro i y hi hy
    by_cases hik : i = k
    ·subst hik; rw [hx] at hy; simp only [Option.some.injEq] at hy; subst hy; exact hb
    ·exact hno i y (by omega) hy
   (refine go1 (aj1 e1) aj0 (aj4 @dAsk.eq_1 hlt hx hx') ?_; intros; refine mk_i ?_)
   exact Again.mk ⟨k + 1, by omega, hR, hno'⟩ (Sub.lit (by simp [hmx])) (by simp; omega)
   skip
  ·rw [hb] at e1 hR
   simp only [if_true] at hR
   subst hR
   exact go0 (aj1 e1) aj0 (aj4 @dAsk.eq_1 hlt hx hx')
 ·have hkk : k = l.length := by omega
  subst hkk
  rw [List.drop_length] at hR
  have hR2 : R = 0 := hR
  subst hR2
  exact go0 aj0 aj0 aj0
theorem check63_count (g : List Rul) (h : g.length < 1 ∨ 64 < g.length) : DPure Tryz.prog 63 [dRuls g] (.int .i64 180) := by
 have hq := ord2_pure g
 have hb : (decide (g.length < 1) || decide (64 < g.length)) = true := by simpa using h
 rw [hb] at hq
 refine check63_gen g (asks true true true true true true true true) rfl (by simp [asks, dAsk, mxR, mxL, mx]) (order127_pure _ _ _ _ _ _ _ _) fun k x hx hno => ?_
 cases k with
 | zero =>
  simp only [asks, List.getElem?_cons_zero, Option.some.injEq] at hx
  subst hx
  exact hq
 | succ k => have := hno 0 _ (by omega) rfl; simp at this
theorem check63_bad (g : List Rul) (h1 : 1 ≤ g.length) (h2 : g.length ≤ 64) (hs : SmlG g) (ht : treesB g = false) : DPure Tryz.prog 63 [dRuls g] (.int .i64 170) := by
 have q1 := ord2_pure g
 have hb : (decide (g.length < 1) || decide (64 < g.length)) = false := by rw [decide_eq_false (by omega), decide_eq_false (by omega)]; rfl
 rw [hb] at q1
 have q2 := ord1_pure 190 g badR fun x hx => ord3_pure x (hs x hx)
 have hb2 : g.any badR = true := by
  unfold treesB at ht
  rw [List.all_eq_false] at ht
  obtain ⟨r, hr, hn⟩ := ht
  refine List.any_eq_true.2 ⟨r, hr, ?_⟩
  unfold badR
  rw [Bool.not_eq_true] at hn
  rw [hn]
  rfl
 rw [hb2] at q2
 refine check63_gen g (asks false true true true true true true true) rfl (by simp [asks, dAsk, mxR, mxL, mx]) (order127_pure _ _ _ _ _ _ _ _) fun k x hx hno => ?_
 match k, hx, hno with
 | 0, hx, _ =>
  simp only [asks, List.getElem?_cons_zero, Option.some.injEq] at hx
  subst hx
  exact q1
 | 1, hx, _ =>
  simp only [asks, List.getElem?_cons_zero, List.getElem?_cons_succ, Option.some.injEq] at hx
  subst hx
  exact q2
 | k + 2, _, hno => have := hno 1 _ (by omega) rfl; simp at this
theorem okText_iff {gt : GT} (hk : OkG gt) (hd : deepG gt = false) : okText gt = decide ((textG gt).size ≤ 2048) := by
 unfold okText
 by_cases h : (textG gt).size ≤ 2048
 ·rw [decide_eq_true h, Bool.and_true, List.all_eq_true]
  intro p hp
  have h1 := ruleT_le hp
  have h2 := txt_geT p.2 (hk p hp).2
  unfold deepG at hd
  rw [List.any_eq_false] at hd
  have h3 := hd p hp
  simp only [decide_eq_true_eq] at h3
  unfold printOK boundI
  rw [if_neg h3, if_neg (by omega)]
  simp
  omega
 ·rw [decide_eq_false h, Bool.and_false]
set_option maxHeartbeats 1000000 in
theorem check63_gt (gt : GT) (h1 : 1 ≤ gt.length) (h2 : gt.length ≤ 64) (hk : OkG gt) (hs : SmlG (mkG gt)) : DPure Tryz.prog 63 [dRuls (mkG gt)] (.int .i64 (codeT gt)) := by
 have hml := mkG_len gt
 have q1 := ord2_pure (mkG gt)
 have hb : (decide ((mkG gt).length < 1) || decide (64 < (mkG gt).length)) = false := by rw [decide_eq_false (by omega), decide_eq_false (by omega)]; rfl
 rw [hb] at q1
 have q2 := ord1_pure 190 (mkG gt) badR fun x hx => ord3_pure x (hs x hx)
 have hb2 : (mkG gt).any badR = false := by
  have ht := gt_trees hk
  unfold treesB at ht
  rw [List.all_eq_true] at ht
  rw [List.any_eq_false]
  intro r hr
  unfold badR
  rw [ht r hr]
  simp
 rw [hb2] at q2
 have n2 := names_le (k := 2) hs
 have q3 := ord4_pure (mkG gt) (by omega) hs
 have q4 := ord5_pure (mkG gt) (by omega) hs
 have q5 := ord6_pure (mkG gt) hs (by omega)
 have q6 : DPure Tryz.prog 187 [dRuls (mkG gt), .ref [.fn (.func 197) [] []]] (.bool (deepG gt)) := by
  have hq : ∃ q : Rul → Bool, (∀ p ∈ gt, q ⟨p.1, flat p.2⟩ = decide (16 < htT p.2)) ∧ ∀ x ∈ mkG gt, DPure Tryz.prog 197 [.agg (dRul x)] (.bool (q x)) := by
   refine ⟨fun r => decide (16 < (r.b.foldl hstep ([], 0)).2), fun p hp => ?_, fun x hx => ?_⟩
   ·simp only [height_flat (hk p hp).2]
   ·obtain ⟨p, hp, rfl⟩ := List.mem_map.1 hx
    simp only [height_flat (hk p hp).2]
    exact ord7_pure p.1 p.2 (hk p hp).2 (small_gt hs hp)
  obtain ⟨q, hq1, hq2⟩ := hq
  have e1 := ord1_pure 197 (mkG gt) q hq2
  have : (mkG gt).any q = deepG gt := by
   unfold mkG deepG
   rw [List.any_map]
   rw [Bool.eq_iff_iff, List.any_eq_true, List.any_eq_true]
   constructor
   ·rintro ⟨p, hp, h⟩; exact ⟨p, hp, by rw [← hq1 p hp]; exact h⟩
   ·rintro ⟨p, hp, h⟩; exact ⟨p, hp, by rw [← hq1 p hp] at h; exact h⟩
  rw [this] at e1
  exact e1
 have q7 := ord8_pure (mkG gt) (by omega)
 have q8 := ord9_pure gt hk hs h1 h2
 have hf : codeT gt = firstA (asks false false (decide (16 < (headsL (mkG gt)).length + (missL (mkG gt)).length)) (decide (16 < (labelsL' (mkG gt)).length)) (decide (64 < occG (mkG gt))) (deepG gt) (decide (0 < (missL (mkG gt)).length)) (!okText gt)) := by
  unfold codeT
  simp only [asks, firstA, Bool.false_eq_true, if_false, decide_eq_true_eq]
  cases hd : deepG gt
  ·rw [okText_iff hk hd]
   by_cases h8 : 2048 < (textG gt).size
   ·have h8' : ¬ (textG gt).size ≤ 2048 := by omega
    simp [h8, h8']
   ·have h8' : (textG gt).size ≤ 2048 := by omega
    simp [h8, h8']
  ·simp
 rw [hf]
 refine check63_gen (mkG gt) _ rfl (by simp [asks, dAsk, mxR, mxL, mx]) (order127_pure _ _ _ _ _ _ _ _) fun k x hx hno => ?_
 match k, hx with
 | 0, hx => simp only [asks, List.getElem?_cons_zero, List.getElem?_cons_succ, Option.some.injEq] at hx; subst hx; exact q1
 | 1, hx => simp only [asks, List.getElem?_cons_zero, List.getElem?_cons_succ, Option.some.injEq] at hx; subst hx; exact q2
 | 2, hx => simp only [asks, List.getElem?_cons_zero, List.getElem?_cons_succ, Option.some.injEq] at hx; subst hx; exact q3
 | 3, hx => simp only [asks, List.getElem?_cons_zero, List.getElem?_cons_succ, Option.some.injEq] at hx; subst hx; exact q4
 | 4, hx => simp only [asks, List.getElem?_cons_zero, List.getElem?_cons_succ, Option.some.injEq] at hx; subst hx; exact q5
 | 5, hx => simp only [asks, List.getElem?_cons_zero, List.getElem?_cons_succ, Option.some.injEq] at hx; subst hx; exact q6
 | 6, hx => simp only [asks, List.getElem?_cons_zero, List.getElem?_cons_succ, Option.some.injEq] at hx; subst hx; exact q7
 | 7, hx => simp only [asks, List.getElem?_cons_zero, List.getElem?_cons_succ, Option.some.injEq] at hx; subst hx; exact q8
 | k + 8, hx => simp [asks] at hx
end Go.Proofs.YtdgocjbakjamaaaGreat
end

section
namespace Go.Proofs.YtdgocjbakjamaaaGreat
open Go Go.Dm
attribute [local irreducible] DW callP callS
set_option maxRecDepth 100000
theorem str_nodup {l : List ByteArray} (h : Str l) : l.Nodup := h.imp fun h1 => sLess_ne h1
theorem not_take {l : List ByteArray} (hn : l.Nodup) {i : Nat} {x : ByteArray} (h : l[i]? = some x) : ¬ x ∈ l.take i := by
 intro hm
 obtain ⟨j, hj, e⟩ := List.getElem_of_mem hm
 rw [List.length_take] at hj
 rw [List.getElem_take] at e
 obtain ⟨hi, e2⟩ := List.getElem?_eq_some_iff.1 h
 have := (List.getElem_inj (h₀ := by omega) (h₁ := hi) hn).1 (e.trans e2.symm)
 omega
theorem take_snoc {α : Type} {l : List α} {i : Nat} {x : α} (h : l[i]? = some x) : l.take (i + 1) = l.take i ++ [x] := by rw [List.take_add_one, h]; rfl
def anSY114 : Ann := ⟨[], []⟩
set_option maxHeartbeats 1000000 in
theorem of14_err (g : List Rul) (c : Int) (hc : c ≠ 0) (h : DPure Tryz.prog 63 [dRuls g] (.int .i64 c)) : DPure Tryz.prog 14 [dRuls g] (.tup [.nilp, .int .i64 c]) := by
 refine DPure_introF [] (fn := Tryz.f14) Tryz.func14 rfl Tryz.call14 (by simp [Tryz.ntmps14]) (by simp [mx]) ?_
 intro hwf B hnt
 simp only [Tryz.ntmps14] at hnt
 have hA := an_is anSY114 Tryz.mixed (aj2 @anSY114.eq_1 Tryz.results14)
 clear hwf
 simp only [argS]
 exact go0 (aj1 h) aj0 (aj1 hc)
def anSY114b2 : Ann := ⟨[19, 21], []⟩
set_option maxHeartbeats 2000000 in
theorem of14_ok (g : List Rul) (hn : (namesK 3 g).length * 16 ≤ 140737488355328) (hl : (headsL g).length < 9223372036854775807) (hll : (labelsL' g).length < 9223372036854775807) (h : DPure Tryz.prog 63 [dRuls g] (.int .i64 0)) : DPure Tryz.prog 14 [dRuls g] (.tup [dTab (headsL g) (labelsL' g), .int .i64 0]) := by
 refine DPure_introF [19, 21] (fn := Tryz.f14) Tryz.func14 rfl Tryz.call14 (by simp [Tryz.ntmps14]) (by simp [mx]) ?_
 intro hwf B hnt
 simp only [Tryz.ntmps14] at hnt
 have hA := an_is anSY114b2 Tryz.mixed (aj2 @anSY114b2.eq_1 Tryz.results14)
 clear hwf
 simp only [argS]
 have e1 := heads64_pure g
 have e2 := labels65_pure g hn
 have hH := headsL_nodup g
 have hL := str_nodup (uniqS_ok (namesK 3 g)).1
 rw [show uniqS (namesK 3 g) = labelsL' g from rfl] at hL
 obtain ⟨H, eH⟩ : ∃ H, H = headsL g := ⟨_, rfl⟩
 obtain ⟨L, eL⟩ : ∃ L, L = labelsL' g := ⟨_, rfl⟩
 rw [← eH] at e1 hH hl ⊢
 rw [← eL] at e2 hL hll ⊢
 clear eH eL
 (refine go1 (aj3 h e1 e2) aj0 aj0 ?_; intros; refine mk_i ?_)
 refine DW_loop (X := {k : Nat // k ≤ H.length}) (fun k => ⟨[(5, .bx 21 1 0), (25, dStrs H), (26, .int .i64 H.length), (27, .int .i64 k.1)], [⟨21, 1, .box [dStrs H, dStrs L, .omp 19 1]⟩, ⟨19, 1, .map (keyL false (H.take k.1)) (upTo k.1)⟩]⟩) (fun k => H.length - k.1) ⟨0, by omega⟩ (Sub.lit (by simp [keyL, upTo])) ?_
 rintro ⟨k, hk⟩
 simp only
 by_cases hlt : k < H.length
 ·obtain ⟨x, hx, hx', hxm⟩ := at_lt' hlt
  have h1 := lookL_none (b := false) (not_take hH hx)
  have hok := keyL_ok false (H.take k)
  have hu : upTo k ++ [.int .i64 (k : Int)] = upTo (k + 1) := (upTo_succ k).symm
  have hKs : keyL false (H.take k) ++ [.agg [.bool false, .str x]] = keyL false (H.take (k + 1)) := by rw [take_snoc hx, keyL_snoc]
  (refine go1 aj0 aj0 (aj8 hlt hx hx' @dStr.eq_1 h1 hok hu hKs) ?_; intros; refine mk_i ?_)
  refine Again.mk ⟨k + 1, by omega⟩ (Sub.lit (by simp [hKs])) (by simp; omega)
  skip
 ·have hkk : k = H.length := by omega
  subst hkk
  rw [List.take_length]
  have k0 : keyL true [] = [] := rfl
  have u0 : upTo 0 = [] := rfl
  (refine go1 aj0 aj0 aj0 ?_; intros; refine mk_i ?_)
  refine DW_loop (X := {k : Nat // k ≤ L.length}) (fun k => ⟨[(5, .bx 21 1 0), (43, dStrs L), (44, .int .i64 L.length), (45, .int .i64 k.1)], [⟨21, 1, .box [dStrs H, dStrs L, .omp 19 1]⟩, ⟨19, 1, .map (tabK H (L.take k.1)) (upTo H.length ++ upTo k.1)⟩]⟩) (fun k => L.length - k.1) ⟨0, by omega⟩ (Sub.lit (by simp [tabK, k0, u0])) ?_
  rintro ⟨k, hk⟩
  simp only
  by_cases hlt : k < L.length
  ·obtain ⟨x, hx, hx', hxm⟩ := at_lt' hlt
   have h1 := tab_none (H := H) (L := L.take k) (b := true) (not_take hL hx)
   have hok := tab_ok H (L.take k)
   have hu : upTo H.length ++ upTo k ++ [.int .i64 (k : Int)] = upTo H.length ++ upTo (k + 1) := by rw [upTo_succ, List.append_assoc]
   have hKs : tabK H (L.take k) ++ [.agg [.bool true, .str x]] = tabK H (L.take (k + 1)) := by unfold tabK; rw [take_snoc hx, keyL_snoc, List.append_assoc]
   (refine go1 aj0 aj0 (aj8 hlt hx hx' @dStr.eq_1 h1 hok hu hKs) ?_; intros; refine mk_i ?_)
   refine Again.mk ⟨k + 1, by omega⟩ (Sub.lit (by simp [hKs])) (by simp; omega)
   skip
  ·have hkk : k = L.length := by omega
   subst hkk
   rw [List.take_length]
   exact go0 aj0 aj0 aj0
end Go.Proofs.YtdgocjbakjamaaaGreat
end

section
namespace Go.Dm
variable [DMode]
open Go.Shelf Go.Sort Go.Proofs Go.RowKit
def isort (l : List Int) : List Int := l.mergeSort fun x y => decide (x ≤ y)
theorem isort_len (l : List Int) : (isort l).length = l.length := by simp [isort]
def dZ (z : Int) : List DVal := [.int .i64 z]
theorem sortInt_spec {P : Program} {ρ : Ren} (L : Lays.n189 P ρ) {f : FuncId} {et bs : Nat} (hf : ρ.f 189 = f) (hen : Enters P f) (hbs0 : 0 < bs) (l : List Int) :
  DSpec P (.func f) [.osl 0 0] [⟨0, 0, .row et 1 bs (l.map dZ)⟩] (.tup []) [⟨0, 0, .row et 1 bs ((isort l).map dZ)⟩] := by
 refine ⟨by simp, hen, fun M w loc vs S hr => ?_⟩
 refine ⟨hen, ?_⟩
 simp only [rdV] at hr
 obtain ⟨v0, r0, hvs, h0, rfl⟩ := hr
 simp only [rd] at h0
 have hcur0 : ∀ l : List Int, curOf [(⟨0, 0, .row et 1 bs (l.map dZ)⟩ : Ent)] loc 0 0 = some (loc 0) := fun _ => rfl
 have hv0 := h0 _ (hcur0 l)
 have hvs' : vs = #[v0] := by cases vs; simpa using hvs
 subst hvs'
 subst hf
 have hhot : ∀ l : List Int, hotOf [(⟨0, 0, .row et 1 bs (l.map dZ)⟩ : Ent)] loc = (loc 0).blks := fun _ => by simp [hotOf]
 have htup : ∀ cur M h, rd cur M h (.tup []) (.tuple #[]) := fun _ _ _ => by simp only [rd]; exact ⟨#[], rfl, by simp [rdV]⟩
 have hk := S.ok ⟨0, 0, .row et 1 bs (l.map dZ)⟩ (by simp)
 by_cases hne : l = []
 ·subst hne
  obtain ⟨a, cap, hh⟩ : ∃ a cap, (loc 0).hdr = .slice a 0 cap := by
   obtain ⟨_, ⟨_, _, h2⟩ | ⟨b, arr, cap, _, h2, _⟩⟩ := hk
   ·exact ⟨_, _, h2⟩
   ·exact ⟨_, _, h2⟩
  rw [hh] at hv0
  subst hv0
  refine (Any.slices_Sort_int_none L a cap w).mono ?_
  rintro e w' ⟨rfl, rfl⟩
  have e0 : isort [] = [] := by simp [isort]
  rw [e0]
  exact ⟨_, rfl, loc, S, Upd.refl _ _, fun b hb => .inl hb, fun e he _ => curOf_self S.nd he, htup _ _ _⟩
 ·obtain ⟨b, arr, cap, p1, p2, p3, p4, p5, p6, p7⟩ : ∃ b arr cap, (loc 0).blks = [b] ∧ (loc 0).hdr = .slice (some ⟨b, 0, none⟩) (l.map dZ).length cap ∧ w.heap[b]? = some (.cells arr et (0, 0)) ∧ (l.map dZ).length ≤ cap ∧ cap ≤ maxLen ∧ cap * 1 = arr.size ∧ rdR (curOf [(⟨0, 0, .row et 1 bs (l.map dZ)⟩ : Ent)] loc) (hotOf [(⟨0, 0, .row et 1 bs (l.map dZ)⟩ : Ent)] loc ++ M) w.heap 1 (l.map dZ) arr 0 := by
   obtain ⟨_, ⟨h, _⟩ | h⟩ := hk
   ·exact absurd (List.map_eq_nil_iff.1 h) hne
   ·exact h
  have hbs : (l.map dZ).length * bs ≤ 150000000000000 := hk.1
  rw [p2] at hv0
  subst hv0
  rw [List.length_map] at p2 p4 hbs
  have hmax : ∀ s ∈ l, inR .i64 s ∧ True := by
   intro s hs
   obtain ⟨i, hi, rfl⟩ := List.getElem_of_mem hs
   obtain ⟨q1, q2⟩ := rdR_at 1 _ arr 0 i [.int .i64 l[i]] p7 (by simp [dZ, hi])
   obtain ⟨us, g1, g2, g3⟩ := rdC_vals _ _ _ q2
   simp only [rdV, rd] at g2
   obtain ⟨v, _, _, ⟨_, h⟩, _⟩ := g2
   exact ⟨h, trivial⟩
  have hcell : ∀ i (hi : i < l.length), arr[i]? = some (.int .i64 l[i]) := by
   intro i hi
   obtain ⟨q1, q2⟩ := rdR_at 1 _ arr 0 i [.int .i64 l[i]] p7 (by simp [dZ, hi])
   obtain ⟨us, g1, g2, g3⟩ := rdC_vals _ _ _ q2
   simp only [rdV, rd] at g2
   obtain ⟨v, r, rfl, ⟨rfl, _⟩, _⟩ := g2
   have := (g3 0 _ rfl).1
   simpa using this
  obtain ⟨ss, hss⟩ : ∃ ss, ss = l := ⟨_, rfl⟩
  have hssl : ss.length = l.length := by rw [hss]
  have hH : Holds (Value.int .i64) w b 0 ss.toArray := by
   intro j hj
   simp only [List.size_toArray, hssl] at hj
   refine ⟨?_, Lib.frozen_of_heap p3 _⟩
   rw [Nat.zero_add, Lib.cell_of_heap p3, hcell j hj]
   rw [getElem!_pos _ j (by simpa [hssl] using hj)]
   simp [hss]
  have hlt : ss.length < 4611686018427387904 := by
   rw [hssl]
   have h1 : l.length * 1 ≤ l.length * bs := Nat.mul_le_mul_left _ hbs0
   omega
  have hbl : b < w.heap.size := (Array.getElem?_eq_some_iff.1 p3).1
  have key := Any.slices_Sort_int L b 0 cap ss w hH hbl hlt
  rw [hssl] at key
  simp only [List.length_map]
  refine key.mono ?_
  rintro e w' ⟨rfl, n, os, rfl⟩
  obtain ⟨q1, q2, q3, q4, q5, q6, q7⟩ := putRow_at (Value.int .i64) (et := et) (arr := arr) p3 n os (ss.mergeSort fun x y => decide (x ≤ y)).toArray
  have hse : isort l = (ss.mergeSort fun x y => decide (x ≤ y)) := by rw [hss]; rfl
  have hml : (ss.mergeSort fun x y => decide (x ≤ y)).length = l.length := by simp [hssl]
  refine ⟨_, rfl, loc, ⟨by simp, by rw [hhot, p1]; simp, fun q hq => S.ap q (by rw [hhot]; rwa [hhot] at hq), fun q hq => ?_, ?_⟩, ?_, fun q hq => .inl (by rw [hhot]; rwa [hhot] at hq), ?_, htup _ _ _⟩
  ·refine Nat.lt_of_lt_of_le (S.lt q ?_) q3
   rw [hhot] at hq ⊢; exact hq
  ·intro e he
   simp only [List.mem_singleton] at he
   subst he
   refine ⟨by simpa [isort_len] using hbs, .inr ⟨b, _, cap, p1, by simpa [isort_len] using p2, q1, by simpa [isort_len] using p4, p5, by simpa [putCells] using p6, ?_⟩⟩
   refine rdR_mk _ _ _ _ fun i cs0 hi => ?_
   have hil : i < l.length := by
    have := (List.getElem?_eq_some_iff.1 hi).1
    simpa [isort_len] using this
   rw [hse] at hi
   have him : i < (ss.mergeSort fun x y => decide (x ≤ y)).length := by omega
   simp only [List.map_map, List.getElem?_map, List.getElem?_eq_getElem him, Option.map_some, Function.comp_apply, Option.some.injEq] at hi
   subst hi
   refine ⟨rfl, ?_⟩
   have hmem : (ss.mergeSort fun x y => decide (x ≤ y))[i] ∈ ss := (List.mergeSort_perm ss _).mem_iff.1 (List.getElem_mem him)
   have hsz : inR .i64 ((ss.mergeSort fun x y => decide (x ≤ y))[i]) := by
    generalize (ss.mergeSort fun x y => decide (x ≤ y))[i] = y at hmem ⊢
    rw [hss] at hmem
    exact (hmax y hmem).1
   have h0 := rdC_of (cur := curOf [(⟨0, 0, .row et 1 bs ((isort l).map dZ)⟩ : Ent)] loc) (M := hotOf [(⟨0, 0, .row et 1 bs ((isort l).map dZ)⟩ : Ent)] loc ++ M) (H := (grow (putRow (Value.int .i64) (Sort.ahead w n) b 0 (ss.mergeSort fun x y => decide (x ≤ y)).toArray) os).heap) [.int .i64 ((ss.mergeSort fun x y => decide (x ≤ y))[i])] [.int .i64 ((ss.mergeSort fun x y => decide (x ≤ y))[i])] [] [] (by simp only [rdV, rd]; exact ⟨_, _, rfl, ⟨rfl, hsz⟩, rfl⟩) (by simp [Value.oneCell'])
   refine rdC_same _ _ _ _ _ (fun p hp => ?_) h0
   have hp0 : p = 0 := by simp [dZ] at hp; omega
   subst hp0
   have hia : i < arr.size := by omega
   simp only [putCells, Array.getElem?_mapIdx]
   rw [show 0 + i * 1 + 0 = i by omega, Array.getElem?_eq_getElem hia]
   simp [him, hml, hil, hssl]
  ·rw [hhot, p1]
   exact ⟨q4, q5, q6, fun _ => q7, q3, fun q hq hn => q2 q hq (fun h => hn (by simp [h]))⟩
  ·intro e he _
   simp only [List.mem_singleton] at he
   subst he
   rfl
theorem growI_spec {P : Program} {ρ : Ren} (L : Lays8.n4 P ρ) {f : FuncId} {et bs : Nat} (hf : ρ.f 4 = f) (hen : Enters P f) (het : ρ.t 25 = et) {i0 : TypeInfo} {z : Value} (hi0 : P.info? et = some i0) (hz0 : i0.zero = some z) (hzc : z.cells.size = 1) (hs0 : i0.size = 1) (hb0 : i0.bytes = bs) (hbs : 1 ≤ bs)
  (n : Nat) (hn : n * bs ≤ 140737488355328) : DSpec P (.func f) [.nilsl, .int .i64 n] [] (.osl 0 1) [⟨0, 1, .row et 1 bs []⟩] := by
 refine ⟨by simp, hen, fun M w loc vs S hr => ?_⟩
 refine ⟨hen, ?_⟩
 simp only [rdV, rd] at hr
 obtain ⟨v0, r0, hvs, rfl, v1, r1, rfl, ⟨rfl, _⟩, rfl⟩ := hr
 have hvs' : vs = #[.slice none 0 0, .int .i64 n] := by cases vs; simpa using hvs
 subst hvs' hf het
 have hnn : n ≤ n * bs := Nat.le_mul_of_pos_right _ hbs
 have hM : ∀ b ∈ M, b < w.heap.size := fun b hb => S.lt b (by simpa [hotOf] using hb)
 by_cases h0 : n = 0
 ·subst h0
  refine (Any8.slices_Grow_room L none 0 0 0 w (by omega) (by omega) (by omega) (by omega)).mono ?_
  rintro e w' ⟨rfl, rfl⟩
  refine ⟨_, rfl, fun _ => ⟨[], .slice none 0 0⟩, ⟨by simp, by simp [hotOf], by simp [hotOf], fun b hb => hM b (by simpa [hotOf] using hb), fun e he => ?_⟩, Upd.refl _ _, fun b hb => by simp [hotOf] at hb, fun e he h => ?_, ?_⟩
  ·simp only [List.mem_singleton] at he
   subst he
   exact ⟨by simp, .inl ⟨rfl, rfl, rfl⟩⟩
  ·simp only [List.mem_singleton] at he
   subst he
   simp at h
  ·simp only [rd]
   intro l hl
   simp [curOf, findE] at hl
   rw [← hl]
 ·refine (Any8.slices_Grow_grow L i0 z hi0 hz0 (by omega) none 0 0 n [] w (by omega) (by omega) (by rw [hb0]; simpa using hn) (by omega) (by simp) (fun _ => rfl) (by simp)).mono ?_
  rintro e w' ⟨rfl, rfl⟩
  obtain ⟨G, hG⟩ : ∃ G, G = grownCap w (0 + n) 0 (ρ.t 25) := ⟨_, rfl⟩
  have hge : 0 + n ≤ G := by rw [hG]; exact grownCap_ge w _ _ _
  have hGm : G ≤ maxLen := by rw [hG]; exact grownCap_le_maxLen w _ _ _ (by unfold maxLen; omega)
  rw [← hG]
  have hU : Upd [] w (w.drew.alloc (.cells ((#[] : Array Value) ++ Builtin.zeroCells z.cells (0 + n - 0) ++ Builtin.zeroCells z.cells (G - (0 + n))) (ρ.t 25))) := (Upd.drew _ w).trans (Upd.alloc _ w.drew _) (fun x hx => .inl hx)
  refine ⟨_, rfl, fun _ => ⟨[w.heap.size], .slice (some ⟨w.heap.size, 0, none⟩) 0 G⟩, ⟨by simp, by simp [hotOf], fun b hb hm => ?_, fun b hb => ?_, fun e he => ?_⟩, hU, fun b hb => ?_, fun e he h => ?_, ?_⟩
  ·simp [hotOf] at hb
   subst hb
   exact absurd (hM _ hm) (by omega)
  ·have h1 : w.heap.size < (w.drew.alloc (.cells ((#[] : Array Value) ++ Builtin.zeroCells z.cells (0 + n - 0) ++ Builtin.zeroCells z.cells (G - (0 + n))) (ρ.t 25))).heap.size := by
    show w.heap.size < (w.heap.push _).size
    simp
   rcases List.mem_append.1 hb with hb | hb
   ·simp [hotOf] at hb
    subst hb
    exact h1
   ·exact Nat.lt_trans (hM b hb) h1
  ·simp only [List.mem_singleton] at he
   subst he
   refine ⟨by simp, .inr ⟨w.heap.size, _, G, rfl, rfl, heap_alloc_new w.drew _, by simp, hGm, ?_, by simp [rdR]⟩⟩
   simp only [Array.size_append, size_zeroCells, hzc]
   simp
   omega
  ·simp [hotOf] at hb
   right
   omega
  ·simp only [List.mem_singleton] at he
   subst he
   simp at h
  ·simp only [rd]
   intro l hl
   simp [curOf, findE] at hl
   rw [← hl]
theorem DSpec_nilrow {P : Program} {f : FuncId} {args : List DVal} {et k bs : Nat} (h : DPure P f args .nilsl) : DSpec P (.func f) args [] (.osl 0 1) [⟨0, 1, .row et k bs []⟩] := by
 refine ⟨by simp, h.1, fun M w loc vs S hr => ⟨h.1, (h.2.2 _ _ _ _ S.lt hr).mono ?_⟩⟩
 rintro e w' ⟨v, rfl, hu, hv⟩
 have hM : ∀ b ∈ M, b < w'.heap.size := fun b hb => Nat.lt_of_lt_of_le (S.lt b (List.mem_append_right _ hb)) hu.size
 simp only [rd] at hv
 refine ⟨_, rfl, fun _ => ⟨[], .slice none 0 0⟩, ⟨by simp, by simp [hotOf], by simp [hotOf], fun b hb => hM b (by simpa [hotOf] using hb), fun e he => ?_⟩, by simpa [hotOf] using hu, fun b hb => by simp [hotOf] at hb, fun e he h => ?_, ?_⟩
 ·simp only [List.mem_singleton] at he
  subst he
  exact ⟨by simp, .inl ⟨rfl, rfl, rfl⟩⟩
 ·simp only [List.mem_singleton] at he
  subst he
  simp at h
 ·simp only [rd]
  intro l hl
  simp [curOf, findE] at hl
  rw [← hl]
  exact hv
theorem DSpec_sl {P : Program} {f : FuncId} {k bs : Nat} {d : DVal} {own' : List Ent} (h1 : DSpec P (.func f) [.nilsl] [] d own') (h2 : DSpec P (.func f) [.esl] [] d own') : DSpec P (.func f) [.sl k bs []] [] d own' := by
 refine ⟨h1.1, h1.2.1, fun M w loc vs S hr => ?_⟩
 simp only [rdV] at hr
 obtain ⟨v, r, hvs, h5, rfl⟩ := hr
 simp only [rd] at h5
 obtain ⟨a, cap, rfl, _, hc, _, h7⟩ := h5
 cases a with
 | none =>
  have : cap = 0 := by
   rcases h7 with h7 | ⟨b, off, arr, ty, fz, h8, _⟩
   ·exact h7.2 rfl
   ·simp at h8
  subst this
  refine h1.2.2 M w loc vs S ?_
  rw [hvs]
  simp only [rdV]
  exact ⟨_, _, rfl, by simp [rd], rfl⟩
 | some ad =>
  refine h2.2.2 M w loc vs S ?_
  rw [hvs]
  simp only [rdV]
  exact ⟨_, _, rfl, by simp only [rd]; exact ⟨ad, cap, rfl, hc⟩, rfl⟩
end Go.Dm
end

section
namespace Go.Proofs.YtdgocjbakjamaaaGreat
open Go Go.Dm Go.Shelf
variable [DMode]
attribute [local irreducible] DW callP callS
set_option maxRecDepth 100000
def catL (ls : List (List Nat)) : List Nat := ls.flatten
def totL (ls : List (List Nat)) : Nat := (catL ls).length
theorem catL_snoc (ls : List (List Nat)) (l : List Nat) : catL (ls ++ [l]) = catL ls ++ l := by simp [catL]
theorem catL_nil : catL [] = [] := rfl
theorem totL_snoc (ls : List (List Nat)) (l : List Nat) : totL (ls ++ [l]) = totL ls + l.length := by unfold totL; rw [catL_snoc, List.length_append]
def rowN (l : List Nat) : List DVal := [dNats l]
@[simp] theorem mx_rowN (l : List Nat) : mxL (rowN l) = 0 := by simp [rowN, mxL, mx]
@[simp] theorem mx_rowNs (l : List (List Nat)) : mxR (l.map rowN) = 0 := mxR0 _ mx_rowN l
def anBO195 : Ann := ⟨[5], []⟩
set_option maxHeartbeats 1000000 in
theorem clone95_spec (l : List Nat) (hl : l.length * 8 ≤ 140737488355328) : DSpec Tryz.prog (.func 95) [dNats l] [] (.osl 0 1) [⟨0, 1, .row 3 1 8 (l.map natD)⟩] := by
 match l, hl with
 | [], _ =>
  refine DSpec_sl ?_ ?_
  ·refine DSpec_nilrow ?_
   refine DPure_introF [] (fn := Tryz.f95) Tryz.func95 rfl Tryz.call95 (by simp [Tryz.ntmps95]) (by simp [mx]) ?_
   intro hwf B hnt
   simp only [Tryz.ntmps95] at hnt
   have hA := an_is anBO195 Tryz.mixed (aj2 @anBO195.eq_1 Tryz.results95)
   simp only [argS]
   exact go0 aj0 aj0 aj0
  ·refine DSpec_intro [] [(5, 0, 1)] (fn := Tryz.f95) Tryz.func95 rfl Tryz.call95 (by simp [Tryz.ntmps95]) (by simp) (by simp) ?_
   intro hwf B hnt
   simp only [Tryz.ntmps95] at hnt
   have hA := an_is anBO195 Tryz.mixed (aj2 @anBO195.eq_1 Tryz.results95)
   simp only [argS, List.nil_append]
   exact go0 aj0 aj0 aj0
 | x :: l, hl =>
  refine DSpec_intro [] [(5, 0, 1)] (fn := Tryz.f95) Tryz.func95 rfl Tryz.call95 (by simp [Tryz.ntmps95]) (by simp) (by simp) ?_
  intro hwf B hnt
  simp only [Tryz.ntmps95] at hnt
  have hA := an_is anBO195 Tryz.mixed (aj2 @anBO195.eq_1 Tryz.results95)
  simp only [List.length_cons] at hl
  have hl2 : (l.length + 1) * 8 ≤ 150000000000000 := by omega
  have hl3 : l.length < 9223372036854775807 := by omega
  simp only [argS, List.nil_append, List.map_cons, dNats, natD]
  exact go0 aj0 aj0 aj0
theorem growN_spec (n : Nat) (hn : n * 8 ≤ 140737488355328) : DSpec Tryz.prog (.func 209) [.nilsl, .int .i64 n] [] (.osl 0 1) [⟨0, 1, .row 3 1 8 []⟩] :=
 growI_spec Tryz.growI rfl Tryz.call209 rfl (hi0 := (rfl : Tryz.prog.info? 3 = some _)) (z := .int .i64 0) rfl rfl rfl rfl (by decide) n hn
theorem sortInts_spec (l : List Int) : DSpec Tryz.prog (.func 75) [.osl 0 0] [⟨0, 0, .row 3 1 8 (l.map dNum)⟩] (.tup []) [⟨0, 0, .row 3 1 8 ((isort l).map dNum)⟩] :=
 sortInt_spec Tryz.sortInt rfl Tryz.call75 (by decide) l
def anBO1138 : Ann := ⟨[24], []⟩
set_option maxHeartbeats 1000000 in
theorem concat138_spec (ls : List (List Nat)) (hb : totL ls * 8 ≤ 140737488355328) : DSpec Tryz.prog (.func 138) [.sl 1 24 (ls.map rowN)] [] (.osl 0 1) [⟨0, 1, .row 3 1 8 ((catL ls).map natD)⟩] := by
 refine DSpec_intro [] [(24, 0, 1)] (fn := Tryz.f138) Tryz.func138 rfl Tryz.call138 (by simp [Tryz.ntmps138]) (by simp) (by simp) ?_
 intro hwf B hnt
 simp only [Tryz.ntmps138] at hnt
 have hA := an_is anBO1138 Tryz.mixed (aj2 @anBO1138.eq_1 Tryz.results138)
 simp only [argS, List.nil_append]
 have hsum : ∀ k, k ≤ ls.length → totL (ls.take k) * 8 ≤ 140737488355328 := fun k hk => by
  unfold totL catL at hb ⊢
  have h1 : ls.flatten.length = (ls.take k).flatten.length + (ls.drop k).flatten.length := by rw [← List.length_append, ← List.flatten_append, List.take_append_drop]
  omega
 have hwl : ls.length < 9223372036854775807 := by
  have h1 := hwf.1
  simp only [wfD, List.length_map] at h1
  have h2 := h1.1
  unfold maxLen at h2
  omega
 clear hwf
 (refine go1 aj0 aj0 aj0 ?_; intros; refine mk_i ?_)
 refine DW_loop (X := {k : Nat // k ≤ ls.length}) (fun k => ⟨[(0, .sl 1 24 (ls.map rowN)), (3, .int .i64 (totL (ls.take k.1))), (9, .sl 1 24 (ls.map rowN)), (10, .int .i64 ls.length), (11, .int .i64 k.1)], []⟩) (fun k => ls.length - k.1) ⟨0, by omega⟩ (Sub.lit (by simp [totL, catL_nil])) ?_
 rintro ⟨k, hk⟩
 simp only
 by_cases hlt : k < ls.length
 ·obtain ⟨x, hx, hx', hxm⟩ := at_lt' hlt
  have hs1 : totL (ls.take (k + 1)) = totL (ls.take k) + x.length := by rw [take_snoc hx, totL_snoc]
  have hs2 := hsum (k + 1) hlt
  obtain ⟨m, hm⟩ : ∃ m, m = totL (ls.take k) := ⟨_, rfl⟩
  rw [hs1, ← hm] at hs2
  rw [← hm] at hs1 ⊢
  (refine go1 aj0 aj0 (aj4 hlt hx hx' @rowN.eq_1) ?_; intros; refine mk_i ?_)
  refine Again.mk ⟨k + 1, by omega⟩ (Sub.lit (by simp [hs1])) (by simp; omega)
  skip
 ·have hkk : k = ls.length := by omega
  subst hkk
  rw [List.take_length]
  have e1 := growN_spec _ hb
  (refine go1 aj0 (aj1 (spc [] [(24,0)] e1)) aj0 ?_; intros; refine mk_i ?_)
  refine DW_loop (X := {k : Nat // k ≤ ls.length}) (fun k => ⟨[(6, .osl 24 1), (25, .sl 1 24 (ls.map rowN)), (26, .int .i64 ls.length), (27, .int .i64 k.1)], [⟨24, 1, .row 3 1 8 ((catL (ls.take k.1)).map natD)⟩]⟩) (fun k => ls.length - k.1) ⟨0, by omega⟩ (Sub.lit (by simp [catL_nil])) ?_
  rintro ⟨k, hk⟩
  simp only
  by_cases hlt : k < ls.length
  ·obtain ⟨x, hx, hx', hxm⟩ := at_lt' hlt
   have hs1 : (catL (ls.take (k + 1))).map natD = (catL (ls.take k)).map natD ++ x.map natD := by rw [take_snoc hx, catL_snoc, List.map_append]
   have hs2 := hsum (k + 1) hlt
   have hs3 : totL (ls.take (k + 1)) = totL (ls.take k) + x.length := by rw [take_snoc hx, totL_snoc]
   obtain ⟨F, hF⟩ : ∃ F, F = catL (ls.take k) := ⟨_, rfl⟩
   have hFl : F.length = totL (ls.take k) := by rw [hF]; rfl
   rw [hs3, ← hFl] at hs2
   rw [← hF] at hs1 ⊢
   have hs4 : (F.length + x.length) * 8 ≤ 150000000000000 := by omega
   (refine go1 aj0 aj0 (aj5 hlt hx hx' @rowN.eq_1 hs4) ?_; intros; refine mk_i ?_)
   refine Again.mk ⟨k + 1, by omega⟩ (Sub.lit (by simp [hs1])) (by simp; omega)
   skip
  ·have hkk : k = ls.length := by omega
   subst hkk
   rw [List.take_length]
   exact go0 aj0 aj0 aj0
end Go.Proofs.YtdgocjbakjamaaaGreat
end

section
namespace Go.Proofs.YtdgocjbakjamaaaGreat
open Go Go.Dm Go.Shelf
variable [DMode]
attribute [local irreducible] DW callP callS
set_option maxRecDepth 100000
def arcsJ (SF : List Sym) (P : List (Nat × Nat)) : List Arc := P.map (arcJ SF)
theorem arcsJ_nil (SF : List Sym) : arcsJ SF [] = [] := rfl
theorem arcsJ_app (SF : List Sym) (P Q : List (Nat × Nat)) : arcsJ SF (P ++ Q) = arcsJ SF P ++ arcsJ SF Q := by simp [arcsJ]
theorem arcsJ_len (SF : List Sym) (P : List (Nat × Nat)) : (arcsJ SF P).length = P.length := by simp [arcsJ]
def pairs (x : Nat) (f : List Nat) : List (Nat × Nat) := f.map fun q => (x, q)
theorem pairs_snoc (x : Nat) (f : List Nat) (q : Nat) : pairs x (f ++ [q]) = pairs x f ++ [(x, q)] := by simp [pairs]
theorem pairs_nil (x : Nat) : pairs x [] = [] := rfl
theorem pairs_len (x : Nat) (f : List Nat) : (pairs x f).length = f.length := by simp [pairs]
def dBx (u v : Nat) (S : List Sym) (A : List Arc) : List Ent := [⟨0, 0, .box [.osl 1 u, .osl 2 v]⟩, ⟨1, u, .row 47 2 16 (S.map dSym)⟩, ⟨2, v, .row 49 4 32 (A.map dArc)⟩]
theorem joinP_snoc (l f : List Nat) (x : Nat) : joinP (l ++ [x]) f = joinP l f ++ pairs x f := by simp [joinP, pairs]
theorem joinP_len (l f : List Nat) : (joinP l f).length = l.length * f.length := by
 induction l with
 | nil => simp [joinP]
 | cons x l ih =>
  have : joinP (x :: l) f = (f.map fun q => (x, q)) ++ joinP l f := rfl
  rw [this, List.length_append, ih, List.length_map, List.length_cons, Nat.add_mul]
  omega
theorem sy_at {S SF : List Sym} (hp : S <+: SF) {q : Nat} (h1 : 1 ≤ q) (h2 : q ≤ S.length) : S[q - 1]? = some (SF.getD (q - 1) ⟨false, 0⟩) := by
 obtain ⟨R, rfl⟩ := hp
 have h : q - 1 < S.length := by omega
 rw [List.getD_eq_getElem?_getD, List.getElem?_append_left h, List.getElem?_eq_getElem h]
 rfl
def anBO272 : Ann := ⟨[], [⟨6, [], [0], []⟩]⟩
set_option maxHeartbeats 2000000 in
theorem join72_spec (S SF : List Sym) (A : List Arc) (l f : List Nat) (hp : S <+: SF) (hf : ∀ q ∈ f, 1 ≤ q ∧ q ≤ S.length) (hS : S.length < 9223372036854775807) (hb : (A.length + l.length * f.length) * 32 ≤ 150000000000000) :
  DSpec Tryz.prog (.func 72) [.bx 0 0 0, dNats l, dNats f] (dBx 0 0 S A) (.tup []) (dBx 0 1 S (A ++ arcsJ SF (joinP l f))) := by
 refine DSpec_intro [] [(0, 0, 0), (1, 1, 0), (2, 2, 1)] (fn := Tryz.f72) Tryz.func72 rfl Tryz.call72 (by simp [Tryz.ntmps72]) (by simp) (by simp [dBx]) ?_
 intro hwf B hnt
 simp only [Tryz.ntmps72] at hnt
 have hA := an_is anBO272 Tryz.mixed (aj2 @anBO272.eq_1 Tryz.results72)
 have hwl : l.length < 9223372036854775807 ∧ f.length < 9223372036854775807 := by
  have h1 := hwf
  simp only [wfL, wfD, List.length_map, maxLen] at h1
  omega
 clear hwf
 simp only [argS]
 (refine go1 aj0 aj0 (aj1 @dBx.eq_1) ?_; intros; refine mk_i ?_)
 refine DW_loop (X := {i : Nat // i ≤ l.length}) (fun i => ⟨[(0, .bx 0 0 0), (2, dNats f), (10, dNats l), (11, .int .i64 l.length), (12, .int .i64 i.1)], dBx 0 1 S (A ++ arcsJ SF (joinP (l.take i.1) f))⟩) (fun i => l.length - i.1) ⟨0, by omega⟩ (Sub.lit (by simp [dBx, joinP_nil, arcsJ_nil])) ?_
 rintro ⟨i, hi⟩
 simp only
 by_cases hlt : i < l.length
 ·obtain ⟨x, hx, hx', hxm⟩ := at_lt' hlt
  have hjs := joinP_snoc (l.take i) f x
  rw [← take_snoc hx] at hjs
  have hjl : (joinP (l.take (i + 1)) f).length ≤ l.length * f.length := by
   rw [joinP_len]
   exact Nat.mul_le_mul_right _ (by rw [List.length_take]; omega)
  rw [hjs, List.length_append, pairs_len] at hjl
  obtain ⟨P, hP⟩ : ∃ P, P = joinP (l.take i) f := ⟨_, rfl⟩
  rw [← hP] at hjl hjs ⊢
  (refine go1 aj0 aj0 (aj5 @dBx.eq_1 hlt hx hx' @natD.eq_1) ?_; intros; refine mk_i ?_)
  refine DW_loop (X := {j : Nat // j ≤ f.length}) (fun j => ⟨[(0, .bx 0 0 0), (2, dNats f), (7, .int .i64 x), (10, dNats l), (11, .int .i64 l.length), (12, .int .i64 i), (16, dNats f), (17, .int .i64 f.length), (18, .int .i64 j.1)], dBx 0 1 S (A ++ arcsJ SF (P ++ pairs x (f.take j.1)))⟩) (fun j => f.length - j.1) ⟨0, by omega⟩ (Sub.lit (by simp [dBx, pairs_nil])) ?_
  rintro ⟨j, hj⟩
  simp only
  by_cases hlt2 : j < f.length
  ·obtain ⟨q, hq, hq', hqm⟩ := at_lt' hlt2
   obtain ⟨hq1, hq2⟩ := hf q hqm
   have hlt3 : q - 1 < S.length := by omega
   obtain ⟨y, hy, hy', hym⟩ := at_lt' hlt3
   have hA : arcJ SF (x, q) = ⟨x, y, q⟩ := by
    have hsy := sy_at hp hq1 hq2
    rw [hy] at hsy
    simp only [Option.some.injEq] at hsy
    unfold arcJ
    rw [← hsy]
   have hts : arcsJ SF (P ++ pairs x (f.take (j + 1))) = arcsJ SF (P ++ pairs x (f.take j)) ++ [⟨x, y, q⟩] := by rw [take_snoc hq, pairs_snoc, ← List.append_assoc, arcsJ_app, ← hA]; rfl
   have hln : (arcsJ SF (P ++ pairs x (f.take j))).length + 1 ≤ l.length * f.length := by rw [arcsJ_len, List.length_append, pairs_len, List.length_take]; omega
   obtain ⟨Z, hZ⟩ : ∃ Z, Z = arcsJ SF (P ++ pairs x (f.take j)) := ⟨_, rfl⟩
   rw [← hZ] at hts hln ⊢
   have hb2 : (A.length + Z.length + 1) * 32 ≤ 150000000000000 := by omega
   have hw1 : IntKind.i64.wrap ((q : Int) - 1) = ((q - 1 : Nat) : Int) := by rw [wrap64_in (by omega) (by omega)]; omega
   (repeat (first | refine DW_seq fun K hK => ?_ | (refine DW_r anBO272 Tryz.mixed (by kernel_rfl) ?_; simp [anBO272, hnt, dBx, hlt2, hq, hq', natD, hw1, hlt3, hy, hy', dSym]; try simp (disch := omega) only [wrap64_in]) | refine DW_block ?_ | (refine DW_if ?_ ?_ ?_; (· (simp [hnt, dBx, hlt2, hq, hq', natD, hw1, hlt3, hy, hy', dSym]; done)); (try (rotate_left; (· (intro hc; (try simp [hnt, dBx, hlt2, hq, hq', natD, hw1, hlt3, hy, hy', dSym] at hc); done))))) | (refine DW_ret ?_; simp [Tryz.results72, hnt, dBx, hlt2, hq, hq', natD, hw1, hlt3, hy, hy', dSym]) | ((first | refine DW_exit ?_ | refine DW_skip ?_); simp [hnt, dBx, hlt2, hq, hq', natD, hw1, hlt3, hy, hy', dSym]) | (intro hc; (try simp [hnt, dBx, hlt2, hq, hq', natD, hw1, hlt3, hy, hy', dSym] at hc); (try (exfalso; omega))) | (refine ⟨?_, ?_⟩; · omega) | omega | apply_assumption -exfalso -symm | (exfalso; omega)))
   refine Again.mk ⟨j + 1, by omega⟩ (Sub.lit (by simp [dBx, hts, dArc])) (by simp; omega)
   skip
  ·have hkk : j = f.length := by omega
   subst hkk
   rw [List.take_length, ← hjs]
   (refine go1 aj0 aj0 (aj1 @dBx.eq_1) ?_; intros; refine mk_i ?_)
   refine Again.mk ⟨i + 1, by omega⟩ (Sub.lit (by simp [dBx])) (by simp; omega)
   skip
 ·have hkk : i = l.length := by omega
  subst hkk
  rw [List.take_length]
  exact go0 aj0 aj0 (aj1 @dBx.eq_1)
end Go.Proofs.YtdgocjbakjamaaaGreat
end

section
namespace Go.Proofs.YtdgocjbakjamaaaGreat
open Go Go.Dm
variable [DMode]
theorem lvs_app (l m : List Nd) : lvs (l ++ m) = lvs l ++ lvs m := by simp [lvs]
theorem lvs_cons (x : Nd) (l : List Nd) : lvs (x :: l) = (if isOcc x = true then [x] else []) ++ lvs l := by unfold lvs; rw [List.filter_cons]; cases isOcc x <;> rfl
theorem flatL_one (u : RT) : flatL [u] = flat u := by rw [flatL_cons, flatL_nil, List.append_nil]
theorem lvs_leaf {x : Nd} (h : x.k = 2 ∨ x.k = 3) (l : List Nd) : lvs (x :: l) = x :: lvs l := by rw [lvs_cons, if_pos (isOcc_iff.2 h)]; rfl
theorem lvs_node {x : Nd} (h : ¬ (x.k = 2 ∨ x.k = 3)) (l : List Nd) : lvs (x :: l) = lvs l := by rw [lvs_cons, if_neg (fun hh => h (isOcc_iff.1 hh))]; rfl
mutual
theorem fiT_len : ∀ (t : RT) (a : Nat), (fiT t a).length ≤ (lvs (flat t)).length
 | .mk x ks, a => by
  rw [fiT_mk, flat_mk]
  split
  ·rename_i h; rw [lvs_leaf h]; simp
  ·rename_i h; rw [lvs_node h]; exact fiL_len x.k ks (a + 1)
theorem fiL_len (k : Int) : ∀ (us : List RT) (a : Nat), (fiL k us a).length ≤ (lvs (flatL us)).length
 | [], a => by rw [fiL_nil]; simp
 | u :: us, a => by
  have h1 := fiT_len u a
  have h2 := fiL_len k us (a + (flat u).length)
  rw [fiL_cons, flatL_cons, lvs_app, List.length_append, List.length_append]
  split
  ·simp; omega
  ·omega
end
mutual
theorem laT_len : ∀ (t : RT) (a : Nat), (laT t a).length ≤ (lvs (flat t)).length
 | .mk x ks, a => by
  rw [laT_mk, flat_mk]
  split
  ·rename_i h; rw [lvs_leaf h]; simp
  ·rename_i h; rw [lvs_node h]; exact laL_len x.k ks (a + 1)
theorem laL_len (k : Int) : ∀ (us : List RT) (a : Nat), (laL k us a).length ≤ (lvs (flatL us)).length
 | [], a => by rw [laL_nil]; simp
 | u :: us, a => by
  have h1 := laT_len u a
  have h2 := laL_len k us (a + (flat u).length)
  rw [laL_cons, flatL_cons, lvs_app, List.length_append]
  split
  ·rw [List.length_append]
   split
   ·omega
   ·simp; omega
  ·rw [List.length_append]; omega
end
theorem join_le {l f : List Nat} (h1 : l.length ≤ 64) (h2 : f.length ≤ 64) : l.length * f.length ≤ 4096 := Nat.mul_le_mul h1 h2
mutual
theorem arT_len : ∀ (t : RT) (a : Nat), (lvs (flat t)).length ≤ 64 → (arT t a).length + 4096 ≤ 8192 * (flat t).length
 | .mk x ks, a, hM => by
  rw [arT_mk, flat_mk, List.length_cons]
  split
  ·simp; omega
  ·rename_i h
   rw [flat_mk, lvs_node h] at hM
   have h1 := arL_len x.k ks (a + 1) [] (by simpa using hM)
   have h2 := laL_len x.k ks (a + 1)
   have h3 := fiL_len x.k ks (a + 1)
   rw [List.length_append]
   split
   ·rw [joinP_len]
    have := join_le (l := laL x.k ks (a + 1)) (f := fiL x.k ks (a + 1)) (by omega) (by omega)
    omega
   ·simp; omega
theorem arL_len (k : Int) : ∀ (us : List RT) (a : Nat) (acc : List Nat), acc.length + (lvs (flatL us)).length ≤ 64 → (arL k us a acc).length ≤ 8192 * (flatL us).length
 | [], a, acc, _ => by rw [arL_nil]; simp
 | u :: us, a, acc, hM => by
  rw [flatL_cons, lvs_app, List.length_append] at hM
  have h1 := arT_len u a (by omega)
  have h2 := fiT_len u a
  have h3 := laT_len u a
  have h4 := arL_len k us (a + (flat u).length) (if k = 4 then laT u a ++ (if empT u = true then acc else []) else []) (by
   split
   ·rw [List.length_append]
    split
    ·omega
    ·simp; omega
   ·simp; omega)
  rw [arL_cons, flatL_cons, List.length_append, List.length_append, List.length_append]
  split
  ·rename_i h5
   rw [if_pos h5] at h4
   rw [joinP_len]
   have := join_le (l := acc) (f := fiT u a) (by omega) (by omega)
   omega
  ·rename_i h5
   rw [if_neg h5] at h4
   simp only [List.length_nil]
   omega
end
theorem joinP_map (l f : List Nat) (L : List Nd) (ah : Nat) : joinP (l.map (num L ah)) (f.map (num L ah)) = (joinP l f).map (num2 L ah) := by
 induction l with
 | nil => rfl
 | cons p l ih =>
  have h1 : ∀ (p : Nat) (l f : List Nat), joinP (p :: l) f = f.map (fun q => (p, q)) ++ joinP l f := fun _ _ _ => rfl
  rw [List.map_cons, h1, h1, ih, List.map_append, List.map_map, List.map_map]
  rfl
theorem rkN_step {l : List Nd} {a : Nat} {m r : List Nd} (h : l.drop a = m ++ r) : rkN l (a + m.length) = rkN l a + (lvs m).length := by
 unfold rkN lvs
 have h1 : l.take (a + m.length) = l.take a ++ m := by
  rw [List.take_add, h, List.take_left']
  rfl
 rw [h1, List.filter_append, List.length_append]
theorem drop_step {l : List Nd} {a : Nat} {m r : List Nd} (h : l.drop a = m ++ r) : l.drop (a + m.length) = r := by
 rw [← List.drop_drop, h, List.drop_left']
 rfl
theorem drop_in {l : List Nd} {a p : Nat} {m r : List Nd} {x : Nd} (h : l.drop a = m ++ r) (hp : a ≤ p) (hx : m[p - a]? = some x) : l[p]? = some x := by
 have h1 : (l.drop a)[p - a]? = some x := by
  rw [h, List.getElem?_append_left (List.getElem?_eq_some_iff.1 hx).1]
  exact hx
 rw [List.getElem?_drop] at h1
 rwa [show a + (p - a) = p by omega] at h1
theorem lvs_sub {l : List Nd} {a : Nat} {m r : List Nd} (h : l.drop a = m ++ r) : (lvs m).length ≤ (lvs l).length := by
 have h1 : lvs l = lvs (l.take a) ++ (lvs m ++ lvs r) := by rw [← lvs_app, ← h, ← lvs_app, List.take_append_drop]
 rw [h1, List.length_append, List.length_append]
 omega
theorem num_in {l m r : List Nd} {a ah q : Nat} (h : l.drop a = m ++ r) (hq : a ≤ q) (hx : ∃ x, m[q - a]? = some x ∧ (x.k = 2 ∨ x.k = 3)) : 1 ≤ num l ah q ∧ num l ah q ≤ ah + rkN l (a + m.length) := by
 obtain ⟨x, hx, hk⟩ := hx
 have h1 := drop_in h hq hx
 have h2 := rkN_lt h1 (isOcc_iff.2 hk) (show q < a + m.length by have := (List.getElem?_eq_some_iff.1 hx).1; omega)
 unfold num
 omega
theorem fi_num {l r : List Nd} {t : RT} {a ah : Nat} (h : l.drop a = flat t ++ r) : ∀ q ∈ (fiT t a).map (num l ah), 1 ≤ q ∧ q ≤ ah + rkN l (a + (flat t).length) := by
 intro q hq
 obtain ⟨p, hp, rfl⟩ := List.mem_map.1 hq
 exact num_in h (fiT_in t a p hp).1 (fiT_leaf t a p hp)
theorem fiL_num {l r : List Nd} {k : Int} {us : List RT} {a ah : Nat} (h : l.drop a = flatL us ++ r) : ∀ q ∈ (fiL k us a).map (num l ah), 1 ≤ q ∧ q ≤ ah + rkN l (a + (flatL us).length) := by
 intro q hq
 obtain ⟨p, hp, rfl⟩ := List.mem_map.1 hq
 exact num_in h (fiL_in k us a p hp).1 (fiL_leaf k us a p hp)
def pE (k : Int) (us : List RT) : Bool := if k = 4 then allE us else if k = 1 then true else anyE us
theorem anyE_snoc (ts : List RT) (t : RT) : anyE (ts ++ [t]) = (anyE ts || empT t) := by rw [anyE_any, anyE_any, List.any_append]; simp
theorem pE_nil (k : Int) : pE k [] = (decide (k = 1) || decide (k = 4)) := by
 unfold pE
 rw [allE_nil, show anyE [] = false by rw [anyE]]
 by_cases h4 : k = 4
 ·simp [h4]
 ·by_cases h1 : k = 1 <;> simp [h1, h4]
theorem pE_snoc (k : Int) (us : List RT) (u : RT) : pE k (us ++ [u]) = if k = 4 then (pE k us && empT u) else (pE k us || empT u) := by
 unfold pE
 by_cases h4 : k = 4
 ·rw [if_pos h4, if_pos h4, if_pos h4, allE_snoc]
 ·rw [if_neg h4, if_neg h4, if_neg h4]
  by_cases h1 : k = 1
  ·rw [if_pos h1, if_pos h1]; rfl
  ·rw [if_neg h1, if_neg h1, anyE_snoc]
theorem pE_all {x : Nd} {ks : List RT} (h : okT (.mk x ks) = true) (hn : ¬ (x.k = 2 ∨ x.k = 3)) : empT (.mk x ks) = (pE x.k ks || decide (x.k = 6) || decide (x.k = 8)) := by
 have hm := (okT_mk h).1
 rw [empT_mk, if_neg hn]
 unfold pE
 by_cases h5 : x.k = 5
 ·simp [h5]
 by_cases h4 : x.k = 4
 ·simp [h4]
 by_cases h7 : x.k = 7
 ·obtain ⟨u, rfl⟩ := one_kid h (by omega)
  rw [h7]
  simp [allE_cons, allE_nil, anyE]
 by_cases h1 : x.k = 1
 ·simp [h1]
 by_cases h6 : x.k = 6
 ·simp [h6]
 by_cases h8 : x.k = 8
 ·simp [h8]
 exfalso
 unfold mayN at hm
 rw [if_neg h1, if_neg (fun e => hn (.inl e)), if_neg (fun e => hn (.inr e)), if_neg h4, if_neg h5, if_neg h6, if_neg h7, if_neg h8] at hm
 simp at hm
end Go.Proofs.YtdgocjbakjamaaaGreat
end

section
namespace Go.Proofs.YtdgocjbakjamaaaGreat
open Go Go.Dm Go.Shelf
variable [DMode]
attribute [local irreducible] DW callP callS
set_option maxRecDepth 100000
abbrev dPart (e : Bool) (f l : List Nat) : DVal := .agg [.bool e, dNats f, dNats l]
theorem catL2 (a b : List Nat) : catL [a, b] = a ++ b := by simp [catL]
theorem totL2 (a b : List Nat) : totL [a, b] = a.length + b.length := by simp [totL, catL]
theorem concat2_spec (a b : List Nat) (hb : (a.length + b.length) * 8 ≤ 140737488355328) : DSpec Tryz.prog (.func 138) [.sl 1 24 [[dNats a], [dNats b]]] [] (.osl 0 1) [⟨0, 1, .row 3 1 8 ((a ++ b).map natD)⟩] := by
 have h := concat138_spec [a, b] (by rw [totL2]; exact hb)
 rw [catL2] at h
 exact h
def anBO371 : Ann := ⟨[16, 22], [⟨1, [], [], [3, 4, 5, 12, 13, 14, 15, 16]⟩]⟩
set_option maxHeartbeats 1000000 in
theorem alt71_pure (e e' : Bool) (f f' l l' : List Nat) (hf : (f.length + f'.length) * 8 ≤ 140737488355328) (hl : (l.length + l'.length) * 8 ≤ 140737488355328) :
  DPure Tryz.prog 71 [dPart e f l, dPart e' f' l'] (dPart (e || e') (f ++ f') (l ++ l')) := by
 refine DPure_introF [16, 22, 4] (fn := Tryz.f71) Tryz.func71 rfl Tryz.call71 (by simp [Tryz.ntmps71]) (by simp [mx]) ?_
 intro hwf B hnt
 simp only [Tryz.ntmps71] at hnt
 have hA := an_is anBO371 Tryz.mixed (aj2 @anBO371.eq_1 Tryz.results71)
 clear hwf
 simp only [argS]
 have e1 := concat2_spec f f' hf
 have e2 := concat2_spec l l' hl
 obtain ⟨F, hF⟩ : ∃ F, F = f ++ f' := ⟨_, rfl⟩
 obtain ⟨L, hL⟩ : ∃ L, L = l ++ l' := ⟨_, rfl⟩
 rw [← hF] at e1 ⊢
 rw [← hL] at e2 ⊢
 have hr2 : List.range 2 = [0, 1] := rfl
 cases e
 ·exact go0 aj0 (aj2 (spc [] [(16,0)] e1) (spc [] [(22,0)] e2)) (aj1 hr2)
 ·exact go0 aj0 (aj2 (spc [] [(16,0)] e1) (spc [] [(22,0)] e2)) (aj1 hr2)
def anBO371b2 : Ann := ⟨[16, 22], [⟨1, [], [], [3, 4, 5, 12, 13, 14, 15, 16]⟩]⟩
set_option maxHeartbeats 1000000 in
theorem alt71_spec (e e' : Bool) (f f' l l' : List Nat) (hf : (f.length + f'.length) * 8 ≤ 140737488355328) (hl : (l.length + l'.length) * 8 ≤ 140737488355328) :
  DSpec Tryz.prog (.func 71) [dPart e f l, dPart e' f' l'] [] (.agg [.bool (e || e'), dNats (f ++ f'), .osl 0 1]) [⟨0, 1, .row 3 1 8 ((l ++ l').map natD)⟩] := by
 refine DSpec_intro [16, 4] [(22, 0, 1)] (fn := Tryz.f71) Tryz.func71 rfl Tryz.call71 (by simp [Tryz.ntmps71]) (by simp) (by simp) ?_
 intro hwf B hnt
 simp only [Tryz.ntmps71] at hnt
 have hA := an_is anBO371b2 Tryz.mixed (aj2 @anBO371b2.eq_1 Tryz.results71)
 clear hwf
 simp only [argS, List.nil_append]
 have e1 := concat2_spec f f' hf
 have e2 := concat2_spec l l' hl
 obtain ⟨F, hF⟩ : ∃ F, F = f ++ f' := ⟨_, rfl⟩
 obtain ⟨L, hL⟩ : ∃ L, L = l ++ l' := ⟨_, rfl⟩
 rw [← hF] at e1 ⊢
 rw [← hL] at e2 ⊢
 have hr2 : List.range 2 = [0, 1] := rfl
 cases e
 ·exact go0 aj0 (aj2 (spc [] [(16,0)] e1) (spc [] [(22,0)] e2)) (aj1 hr2)
 ·exact go0 aj0 (aj2 (spc [] [(16,0)] e1) (spc [] [(22,0)] e2)) (aj1 hr2)
def anBO370 : Ann := ⟨[], [⟨1, [4], [], []⟩]⟩
theorem of70_pure (H L : List ByteArray) (x : Nd) : DPure Tryz.prog 70 [.agg (dNd x), .ref [dTab H L]] (.agg (dSym (symS H L x))) := by
 refine DPure_introF [] (fn := Tryz.f70) Tryz.func70 rfl Tryz.call70 (by simp [Tryz.ntmps70]) (by simp [mx, dSym]) ?_
 intro hwf B hnt
 simp only [Tryz.ntmps70] at hnt
 have hA := an_is anBO370 Tryz.mixed (aj2 @anBO370.eq_1 Tryz.results70)
 clear hwf
 simp only [argS]
 have e1 := sym68_pure H L x
 exact go0 (aj1 e1) aj0 (aj2 @dNd.eq_1 @dSym.eq_1)
end Go.Proofs.YtdgocjbakjamaaaGreat
end

