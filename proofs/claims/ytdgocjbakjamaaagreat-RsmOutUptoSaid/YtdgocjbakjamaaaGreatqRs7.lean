/- Parts of a proof, laid together: BN1, WRn, RY1, RX2, RX3, RX4, RY2, RY3, RY4, WE0, WR2, WR3, BN3. -/
import Derived.Test.YtdgocjbakjamaaaGreatqRs4
import Derived.Test.YtdgocjbakjamaaaGreatqRs5
import Derived.Test.YtdgocjbakjamaaaGreatqRs6
set_option linter.unusedSimpArgs false
set_option linter.unusedVariables false
set_option linter.unusedSectionVars false
section
namespace Go.Proofs.YtdgocjbakjamaaaGreat
open Go Go.Dm
variable [DMode]
attribute [local irreducible] DW callP callS
set_option maxRecDepth 100000
theorem placeS_mem {l : List ByteArray} {s : ByteArray} : decide (0 ≤ placeS l s) = decide (s ∈ l) := by
 refine decide_eq_decide.2 ?_
 unfold placeS
 by_cases h : s ∈ l
 ·rw [if_pos (List.any_eq_true.2 ⟨s, h, by simp⟩)]
  simp only [h, iff_true]
  omega
 ·rw [if_neg (fun hh => h (by obtain ⟨x, hx, hs⟩ := List.any_eq_true.1 hh; simp at hs; subst hs; exact hx))]
  simp [h]
theorem contains128_pure (l : List ByteArray) (s : ByteArray) : DPure Tryz.prog 128 [dStrs l, .str s] (.bool (decide (s ∈ l))) := by
 rw [← placeS_mem]; exact contains104_pure l s
theorem containsO_spec (l : List ByteArray) (s : ByteArray) : DSpec Tryz.prog (.func 128) [.osl 0 0, .str s] [⟨0, 0, .row 9 1 16 (l.map dStr)⟩] (.bool (decide (s ∈ l))) [⟨0, 0, .row 9 1 16 (l.map dStr)⟩] :=
 DSpec_lend rfl (contains128_pure l s)
def anBN164 : Ann := ⟨[15], [⟨4, [5], [], []⟩]⟩
set_option maxHeartbeats 1000000 in
theorem heads64_pure (g : List Rul) : DPure Tryz.prog 64 [dRuls g] (dStrs (headsL g)) := by
 refine DPure_introF [3] (fn := Tryz.f64) Tryz.func64 rfl Tryz.call64 (by simp [Tryz.ntmps64]) (by simp [mx]) ?_
 intro hwf B hnt
 simp only [Tryz.ntmps64] at hnt
 have hA := an_is anBN164 Tryz.mixed (aj2 @anBN164.eq_1 Tryz.results64)
 have hs : g.length * 40 ≤ 150000000000000 := by have := hwf.1; simp only [wfD, List.length_map] at this; exact this.1
 clear hwf
 simp only [argS]
 (refine go1 aj0 aj0 aj0 ?_; intros; refine mk_i ?_)
 refine DW_adoptS 3 3 9 1 16 (by simp [hnt, Tryz.results64, anBN164]) (fun n => ?_)
 refine DW_loop (X := {i : Nat // i ≤ g.length}) (fun i => ⟨[(0, dRuls g), (3, .osl 3 1), (6, dRuls g), (7, .int .i64 g.length), (8, .int .i64 i.1)], [⟨3, 1, .row 9 1 16 ((headsL (g.take i.1)).map dStr)⟩]⟩) (fun i => g.length - i.1) ⟨0, by omega⟩ (Sub.lit (by simp [headsL])) ?_
 rintro ⟨i, hi⟩
 simp only
 by_cases hlt : i < g.length
 ·obtain ⟨r, hr, hr', hrm⟩ := at_lt' hlt
  have htk := headsL_take hr
  have hl := headsL_len (g.take i)
  rw [List.length_take] at hl
  obtain ⟨T, hT⟩ : ∃ T, T = headsL (g.take i) := ⟨_, rfl⟩
  rw [← hT] at htk hl ⊢
  have e1 := containsO_spec T r.h
  have z1 : (T.length + 1) * 16 ≤ 150000000000000 := by omega
  have z2 : T.length + 1 ≤ 9223372036854775807 := by omega
  unfold hStep at htk
  by_cases hm : r.h ∈ T
  ·rw [if_pos hm] at htk
   rw [decide_eq_true hm] at e1
   (refine go1 aj0 (aj1 (spc [(3,0)] [] e1)) (aj4 @dRul.eq_1 hlt hr hr') ?_; intros; refine mk_i ?_)
   refine Again.mk ⟨i + 1, by omega⟩ (Sub.lit (by simp [htk])) (by simp; omega)
   skip
  ·rw [if_neg hm] at htk
   rw [decide_eq_false hm] at e1
   (refine go1 aj0 (aj1 (spc [(3,0)] [] e1)) (aj6 @dRul.eq_1 hlt hr hr' z1 z2) ?_; intros; refine mk_i ?_)
   refine Again.mk ⟨i + 1, by omega⟩ (Sub.lit (by simp [htk, dStr])) (by simp; omega)
   skip
 ·have hkk : i = g.length := by omega
  subst hkk
  rw [List.take_length]
  exact go0 aj0 aj0 aj0
abbrev dCM (m : CM) : DObj := .map (strsD m.K) (intsV m.V)
def anBN1131 : Ann := ⟨[], [⟨4, [7], [], []⟩, ⟨7, [9], [], []⟩]⟩
set_option maxHeartbeats 2000000 in
theorem names131_spec (g : List Rul) (k : Int) : DSpec Tryz.prog (.func 131) [dRuls g, .int .i64 k] [] (.omp 0 1) [⟨0, 1, dCM (cntL (namesK k g))⟩] := by
 refine DSpec_intro [] [(10, 0, 1)] (fn := Tryz.f131) Tryz.func131 rfl Tryz.call131 (by simp [Tryz.ntmps131]) (by simp) (by simp) ?_
 intro hwf B hnt
 simp only [Tryz.ntmps131] at hnt
 have hA := an_is anBN1131 Tryz.mixed (aj2 @anBN1131.eq_1 Tryz.results131)
 have hwl := len_ruls hwf.1
 have hwb : ∀ r ∈ g, r.b.length < 9223372036854775807 := fun r hr => by
  have h1 := hwf.1
  obtain ⟨i, hi, rfl⟩ := List.getElem_of_mem hr
  have h2 : wfR (g.map dRul) := by simp only [wfD] at h1; exact h1.2.2
  have h3 := wfR_at h2 (List.getElem?_eq_getElem hi)
  simp only [dRul, wfL] at h3
  exact len_nds h3.2.1
 clear hwf
 simp only [argS, List.nil_append]
 (refine go1 aj0 aj0 aj0 ?_; intros; refine mk_i ?_)
 refine DW_loop (X := {i : Nat // i ≤ g.length}) (fun i => ⟨[(0, dRuls g), (1, .int .i64 k), (5, .omp 10 1), (11, dRuls g), (12, .int .i64 g.length), (13, .int .i64 i.1)], [⟨10, 1, dCM (cntL (namesK k (g.take i.1)))⟩]⟩) (fun i => g.length - i.1) ⟨0, by omega⟩ (Sub.lit (by simp [namesK, cntL, strsD, intsV])) ?_
 rintro ⟨i, hi⟩
 simp only
 by_cases hlt : i < g.length
 ·obtain ⟨r, hr, hr', hrm⟩ := at_lt' hlt
  have htk := namesK_take (k := k) hr
  have hrl := hwb r hrm
  obtain ⟨N, hN⟩ : ∃ N, N = namesK k (g.take i) := ⟨_, rfl⟩
  rw [← hN] at htk ⊢
  (refine go1 aj0 aj0 (aj4 @dRul.eq_1 hlt hr hr') ?_; intros; refine mk_i ?_)
  refine DW_loop (X := {j : Nat // j ≤ r.b.length}) (fun j => ⟨[(0, dRuls g), (1, .int .i64 k), (5, .omp 10 1), (11, dRuls g), (12, .int .i64 g.length), (13, .int .i64 i), (18, dNds r.b), (19, .int .i64 r.b.length), (20, .int .i64 j.1)], [⟨10, 1, dCM (cntL (N ++ namesN k (r.b.take j.1)))⟩]⟩) (fun j => r.b.length - j.1) ⟨0, by omega⟩ (Sub.lit (by simp [namesN])) ?_
  rintro ⟨j, hj⟩
  simp only
  by_cases hlt2 : j < r.b.length
  ·obtain ⟨x, hx, hx', hxm⟩ := at_lt' hlt2
   have htj := namesN_take (k := k) hx
   obtain ⟨E, hE⟩ : ∃ E, E = N ++ namesN k (r.b.take j) := ⟨_, rfl⟩
   have hE2 : N ++ namesN k (r.b.take (j + 1)) = E ++ (if x.k = k then [x.s] else []) := by rw [htj, hE, List.append_assoc]
   rw [← hE]
   by_cases hk : x.k = k
   ·rw [if_pos hk] at hE2
    have hst := cntL_snoc E x.s
    have hok := cnt_ok E
    obtain ⟨⟨Ks, V⟩, hm⟩ : ∃ m, m = cntL E := ⟨_, rfl⟩
    rw [← hm] at hst hok ⊢
    have hks := keyStrs Ks
    unfold cStep at hst
    simp only at hst
    by_cases hs : x.s ∈ Ks
    ·rw [if_pos hs] at hst
     have l1 := lookS_ix hs
     have l3 : ixS Ks x.s < V.length := by have := ixS_lt hs; have := hok.len; simp only at this; omega
     have v1 : (intsV V)[ixS Ks x.s]? = some (.int .i64 (V.getD (ixS Ks x.s) 0)) := by simp [intsV, l3]
     obtain ⟨q, hq⟩ : ∃ q, q = IntKind.i64.wrap (V.getD (ixS Ks x.s) 0 + 1) := ⟨_, rfl⟩
     have hq2 : IntKind.i64.wrap (V.getD (ixS Ks x.s) 0 + 1) = q := hq.symm
     rw [hq2] at hst
     obtain ⟨c, hcc⟩ : ∃ c, c = V.getD (ixS Ks x.s) 0 := ⟨_, rfl⟩
     rw [← hcc] at v1 hq2
     have st1 := intsV_set V (ixS Ks x.s) q
     obtain ⟨ix, hix⟩ : ∃ ix, ix = ixS Ks x.s := ⟨_, rfl⟩
     rw [← hix] at l1 v1 st1 hst
     (refine go1 aj0 aj0 (aj10 @dNd.eq_1 hlt2 hx hx' hk hks l1 v1 hq2 st1) ?_; intros; refine mk_i ?_)
     refine Again.mk ⟨j + 1, by omega⟩ (Sub.lit (by simp only [hE2, hst]; simp)) (by simp; omega)
     skip
    ·rw [if_neg hs] at hst
     have l1 := lookS_none hs
     have st1 := intsV_app V 1
     have sk1 := strsD_app Ks x.s
     (refine go1 aj0 aj0 (aj9 @dNd.eq_1 hlt2 hx hx' hk hks l1 st1 sk1) ?_; intros; refine mk_i ?_)
     refine Again.mk ⟨j + 1, by omega⟩ (Sub.lit (by simp only [hE2, hst]; simp)) (by simp; omega)
     skip
   ·have hk' : (x.k == k) = false := by simpa using hk
    rw [if_neg hk, List.append_nil] at hE2
    (refine go1 aj0 aj0 (aj6 @dNd.eq_1 hlt2 hx hx' hk hk') ?_; intros; refine mk_i ?_)
    refine Again.mk ⟨j + 1, by omega⟩ (Sub.lit (by simp only [hE2]; simp)) (by simp; omega)
    skip
  ·have hkk : j = r.b.length := by omega
   subst hkk
   rw [List.take_length]
   (refine go1 aj0 aj0 aj0 ?_; intros; refine mk_i ?_)
   refine Again.mk ⟨i + 1, by omega⟩ (Sub.lit (by simp only [htk]; simp)) (by simp; omega)
   skip
 ·have hkk : i = g.length := by omega
  subst hkk
  rw [List.take_length]
  exact go0 aj0 aj0 aj0
def delCM (m : CM) (s : ByteArray) : CM := if s ∈ m.K then ⟨m.K.eraseIdx (ixS m.K s), m.V.eraseIdx (ixS m.K s)⟩ else m
structure DelOk (m0 m : CM) (hs : List ByteArray) : Prop where
 len : m.K.length = m.V.length
 mem : ∀ s, s ∈ m.K ↔ s ∈ m0.K ∧ ¬ s ∈ hs
 nd : m.K.Nodup
theorem erase_mem {l : List ByteArray} (hn : l.Nodup) {s x : ByteArray} (hs : s ∈ l) : x ∈ l.eraseIdx (ixS l s) ↔ x ∈ l ∧ x ≠ s := by
 have hi := ixS_lt hs
 have hv : l[ixS l s] = s := by
  have := List.findIdx_getElem (xs := l) (p := fun x => s == x) (w := hi)
  simp at this
  exact this.symm
 rw [List.mem_eraseIdx_iff_getElem]
 constructor
 ·rintro ⟨i, hil, hne, rfl⟩
  refine ⟨List.getElem_mem hil, fun e => hne ?_⟩
  exact (List.getElem_inj hn).1 (e.trans hv.symm)
 ·rintro ⟨hx, hne⟩
  obtain ⟨i, hil, rfl⟩ := List.getElem_of_mem hx
  refine ⟨i, hil, fun e => hne ?_, rfl⟩
  subst e
  exact hv
theorem DelOk.step {m0 m : CM} {hs : List ByteArray} (h : DelOk m0 m hs) (s : ByteArray) : DelOk m0 (delCM m s) (hs ++ [s]) := by
 unfold delCM
 split
 ·rename_i hm
  refine ⟨?_, fun x => ?_, h.nd.sublist (List.eraseIdx_sublist _ _)⟩
  ·have := ixS_lt hm
   rw [List.length_eraseIdx_of_lt this, List.length_eraseIdx_of_lt (by have := h.len; omega), h.len]
  ·simp only
   rw [erase_mem h.nd hm, h.mem x, List.mem_append, List.mem_singleton]
   constructor
   ·rintro ⟨⟨a, b⟩, c⟩; exact ⟨a, fun hh => by rcases hh with hh | hh; exact b hh; exact c hh⟩
   ·rintro ⟨a, b⟩; exact ⟨⟨a, fun hh => b (.inl hh)⟩, fun hh => b (.inr hh)⟩
 ·rename_i hm
  refine ⟨h.len, fun x => ?_, h.nd⟩
  rw [h.mem x, List.mem_append, List.mem_singleton]
  constructor
  ·rintro ⟨a, b⟩; exact ⟨a, fun hh => by rcases hh with hh | hh; exact b hh; subst hh; exact hm ((h.mem x).2 ⟨a, b⟩)⟩
  ·rintro ⟨a, b⟩; exact ⟨a, fun hh => b (.inl hh)⟩
theorem intsV_erase (V : List Int) (j : Nat) : (intsV V).eraseIdx j = intsV (V.eraseIdx j) := by unfold intsV; rw [map_erase]
theorem strsD_erase (V : List ByteArray) (j : Nat) : (strsD V).eraseIdx j = strsD (V.eraseIdx j) := by unfold strsD; rw [map_erase]
def anBN1194 : Ann := ⟨[7], [⟨4, [5], [], []⟩]⟩
set_option maxHeartbeats 2000000 in
theorem missing194_pure (g : List Rul) (hn : (namesK 2 g).length ≤ 9223372036854775807) : DPure Tryz.prog 194 [dRuls g] (.int .i64 (missL g).length) := by
 refine DPure_introF [] (fn := Tryz.f194) Tryz.func194 rfl Tryz.call194 (by simp [Tryz.ntmps194]) (by simp [mx]) ?_
 intro hwf B hnt
 simp only [Tryz.ntmps194] at hnt
 have hA := an_is anBN1194 Tryz.mixed (aj2 @anBN1194.eq_1 Tryz.results194)
 have hwl := len_ruls hwf.1
 clear hwf
 simp only [argS]
 have e1 := names131_spec g 2
 have hok := cnt_ok (namesK 2 g)
 obtain ⟨m0, hm0⟩ : ∃ m, m = cntL (namesK 2 g) := ⟨_, rfl⟩
 rw [← hm0] at e1 hok
 (refine go1 aj0 (aj1 (spc [] [(7,0)] e1)) aj0 ?_; intros; refine mk_i ?_)
 refine DW_loop (X := {x : Nat × CM // x.1 ≤ g.length ∧ DelOk m0 x.2 ((g.take x.1).map (·.h))}) (fun x => ⟨[(0, dRuls g), (3, .omp 7 1), (8, dRuls g), (9, .int .i64 g.length), (10, .int .i64 x.1.1)], [⟨7, 1, dCM x.1.2⟩]⟩) (fun x => g.length - x.1.1) ⟨(0, m0), by simp, by simpa using hok.len, by simp, hok.nd⟩ (Sub.lit (by simp)) ?_
 rintro ⟨⟨i, m⟩, hi, hD⟩
 simp only at hi hD ⊢
 by_cases hlt : i < g.length
 ·obtain ⟨r, hr, hr', hrm⟩ := at_lt' hlt
  have hD2 : DelOk m0 (delCM m r.h) ((g.take (i + 1)).map (·.h)) := by
   have := hD.step r.h
   rw [List.take_add_one, hr, List.map_append]
   exact this
  obtain ⟨Ks, V⟩ := m
  have hks := keyStrs Ks
  unfold delCM at hD2
  simp only at hD2
  by_cases hs : r.h ∈ Ks
  ·rw [if_pos hs] at hD2
   have l1 := lookS_ix hs
   have s1 := strsD_erase Ks (ixS Ks r.h)
   have s2 := intsV_erase V (ixS Ks r.h)
   (refine go1 aj0 aj0 (aj10 @dRul.eq_1 hlt hr hr' hks l1 @delK.eq_1 @delV.eq_1 s1 s2) ?_; intros; refine mk_i ?_)
   refine Again.mk ⟨(i + 1, _), show i + 1 ≤ g.length ∧ _ from ⟨by omega, hD2⟩⟩ (Sub.lit (by simp)) (by simp; omega)
   skip
  ·rw [if_neg hs] at hD2
   have l1 := lookS_none hs
   (refine go1 aj0 aj0 (aj8 @dRul.eq_1 hlt hr hr' hks l1 @delK.eq_1 @delV.eq_1) ?_; intros; refine mk_i ?_)
   refine Again.mk ⟨(i + 1, _), show i + 1 ≤ g.length ∧ _ from ⟨by omega, hD2⟩⟩ (Sub.lit (by simp)) (by simp; omega)
   skip
 ·have hkk : i = g.length := by omega
  subst hkk
  rw [List.take_length] at hD
  have hml : m.K.length = (missL g).length := miss_len hD.nd fun s => by
   rw [hD.mem s, hok.mem s, headsL_mem]
   simp
  have hsl := strsD_len m.K
  rw [hml] at hsl
  have hle : (missL g).length ≤ 9223372036854775807 := Nat.le_trans (Nat.le_trans (List.length_filter_le _ _) (uniqS_len _)) hn
  obtain ⟨Ks, V⟩ := m
  exact go0 aj0 aj0 (aj2 hsl hle)
end Go.Proofs.YtdgocjbakjamaaaGreat
end

section
namespace Go.Proofs.YtdgocjbakjamaaaGreat
open Go Go.Dm
variable [DMode]
attribute [local irreducible] DW callP callS
set_option maxRecDepth 100000
def anWRn159 : Ann := ⟨[], []⟩
theorem rname113_pure (k c : Int) (hk : k = 2 ∧ c = 85 ∨ k = 3 ∧ c = 76) (s : ByteArray) : DPure Tryz.prog 159 [.str s, .int .u8 c] (.bool (txtOK k s)) := by
 refine DPure_introF [] (fn := Tryz.f159) Tryz.func159 rfl Tryz.call159 (by simp [Tryz.ntmps159]) (by simp [mx]) ?_
 intro hwf B hnt
 simp only [Tryz.ntmps159] at hnt
 have hA := an_is anWRn159 Tryz.mixed (aj2 @anWRn159.eq_1 Tryz.results159)
 have hsz : s.size ≤ 9223372036854775807 := by have := hwf.1; simp only [wfD, maxLen] at this; omega
 clear hwf
 simp only [argS]
 obtain ⟨R, hR⟩ : ∃ R, R = txtOK k s := ⟨_, rfl⟩
 rw [← hR]
 unfold txtOK at hR
 by_cases h1 : 1 ≤ s.size
 ·by_cases h2 : s.size ≤ 16
  ·have g1 : ¬ (s.size : Int) < 1 := by omega
   have g2 : ¬ (16 : Int) < s.size := by omega
   have g0 : 0 < s.size := by omega
   obtain ⟨b0, hb0, hb0', _⟩ := at_lt' (show 0 < s.data.toList.length by rw [size_toList]; omega)
   (refine go1 aj0 aj0 (aj5 g0 g1 g2 h1 h2) ?_; intros; refine mk_i ?_)
   refine DW_loop (X := {k : Nat // k ≤ s.size ∧ letS s = ((s.data.toList.drop k).all fun b => letB (b.toNat : Int))}) (fun k => ⟨[(0, .str s), (1, .int .u8 c), (5, .int .i64 k.1)], []⟩) (fun k => s.size - k.1) ⟨0, by simp [letS]⟩ (Sub.lit (by simp)) ?_
   rintro ⟨j, hj, hl⟩
   by_cases hlt : j < s.size
   ·obtain ⟨b, hb, hb', _⟩ := at_lt' (show j < s.data.toList.length by rw [size_toList]; exact hlt)
    rw [List.drop_eq_getElem_cons (by rw [size_toList]; exact hlt), hb', List.all_cons] at hl
    have e1 := inner153_pure (b.toNat : Int)
    cases hL : letB (b.toNat : Int)
    ·rw [hL] at e1 hl
     have hR2 : R = false := by rw [hR]; unfold nameOK; rw [hl]; simp
     subst hR2
     exact go0 (aj1 e1) aj0 (aj3 hlt hb hb')
    ·rw [hL] at e1 hl
     simp only [Bool.true_and] at hl
     (refine go1 (aj1 e1) aj0 (aj3 hlt hb hb') ?_; intros; refine mk_i ?_)
     refine Again.mk ⟨j + 1, by omega, hl⟩ (Sub.lit (by simp)) (by simp; omega)
     skip
   ·have hkk : j = s.size := by omega
    subst hkk
    rw [← size_toList, List.drop_length] at hl
    have hN : nameOK s = true := by unfold nameOK; rw [hl]; simp [h1, h2]
    rw [hN] at hR
    simp only [headQ_at hb0, Bool.true_and] at hR
    have e1 := rupper154_pure (b0.toNat : Int)
    have e2 := rlower155_pure (b0.toNat : Int)
    rcases hk with ⟨rfl, rfl⟩ | ⟨rfl, rfl⟩
    ·simp only [if_true] at hR
     rw [← hR] at e1
     cases R
     ·exact go0 (aj2 e1 e2) aj0 (aj3 g0 hb0 hb0')
     ·exact go0 (aj2 e1 e2) aj0 (aj3 g0 hb0 hb0')
    ·simp only [show ¬ (3 : Int) = 2 by omega, if_false] at hR
     rw [← hR] at e2
     cases R
     ·exact go0 (aj2 e1 e2) aj0 (aj3 g0 hb0 hb0')
     ·exact go0 (aj2 e1 e2) aj0 (aj3 g0 hb0 hb0')
  ·have g1 : ¬ (s.size : Int) < 1 := by omega
   have g2 : (16 : Int) < s.size := by omega
   have hR2 : R = false := by rw [hR]; unfold nameOK; simp [h2]
   subst hR2
   exact go0 aj0 aj0 (aj4 g1 g2 h1 h2)
 ·have g1 : (s.size : Int) < 1 := by omega
  have hR2 : R = false := by rw [hR]; unfold nameOK; simp [h1]
  subst hR2
  exact go0 aj0 aj0 (aj2 g1 h1)
end Go.Proofs.YtdgocjbakjamaaaGreat
end

section
namespace Go.Proofs.YtdgocjbakjamaaaGreat
open Go Go.Dm
variable [DMode]
attribute [local irreducible] DW callP callS
set_option maxRecDepth 100000
def anRY1277 : Ann := ⟨[], []⟩
set_option maxHeartbeats 4000000 in
theorem mayR_pure (x : Nd) : DPure Tryz.prog 277 [.agg (dNd x)] (.bool (mayN x)) := by
 refine DPure_introF [] (fn := Tryz.f277) Tryz.func277 rfl Tryz.call277 (by simp [Tryz.ntmps277]) (by simp [mx]) ?_
 intro hwf B hnt
 simp only [Tryz.ntmps277] at hnt
 have hA := an_is anRY1277 Tryz.mixed (aj2 @anRY1277.eq_1 Tryz.results277)
 simp only [argS]
 have e1 := rname113_pure 2 85 (.inl ⟨rfl, rfl⟩) x.s
 have e2 := rname113_pure 3 76 (.inr ⟨rfl, rfl⟩) x.s
 rw [show txtOK 2 x.s = (nameOK x.s && headQ upI x.s) from rfl] at e1
 rw [show txtOK 3 x.s = (nameOK x.s && headQ loI x.s) from rfl] at e2
 unfold mayN emp
 by_cases k1 : x.k = 1
 ·exact go0 aj0 aj0 (aj3 @dNd.eq_1 @size_e k1)
 by_cases k2 : x.k = 2
 ·obtain ⟨b, hb⟩ : ∃ b, b = (nameOK x.s && headQ upI x.s) := ⟨_, rfl⟩
  rw [← hb] at e1 ⊢
  clear hb
  cases b <;> exact go0 (aj1 e1) aj0 (aj4 @dNd.eq_1 @size_e k1 k2)
 by_cases k3 : x.k = 3
 ·obtain ⟨b, hb⟩ : ∃ b, b = (nameOK x.s && headQ loI x.s) := ⟨_, rfl⟩
  rw [← hb] at e2 ⊢
  clear hb
  cases b <;> exact go0 (aj1 e2) aj0 (aj5 @dNd.eq_1 @size_e k1 k2 k3)
 by_cases k4 : x.k = 4
 ·exact go0 aj0 aj0 (aj6 @dNd.eq_1 @size_e k1 k2 k3 k4)
 by_cases k5 : x.k = 5
 ·exact go0 aj0 aj0 (aj7 @dNd.eq_1 @size_e k1 k2 k3 k4 k5)
 by_cases k6 : x.k = 6
 ·exact go0 aj0 aj0 (aj8 @dNd.eq_1 @size_e k1 k2 k3 k4 k5 k6)
 by_cases k7 : x.k = 7
 ·exact go0 aj0 aj0 (aj9 @dNd.eq_1 @size_e k1 k2 k3 k4 k5 k6 k7)
 by_cases k8 : x.k = 8
 ·exact go0 aj0 aj0 (aj10 @dNd.eq_1 @size_e k1 k2 k3 k4 k5 k6 k7 k8)
 exact go0 aj0 aj0 (aj10 @dNd.eq_1 @size_e k1 k2 k3 k4 k5 k6 k7 k8)
def endI (l : List Nd) (p : Nat) : Int := match endN (l.drop p) 1 with
 | some r => (l.length : Int) - r.length
 | none => -1
def anRY1234 : Ann := ⟨[], []⟩
set_option maxHeartbeats 4000000 in
theorem end144_pure (l : List Nd) (p : Nat) (hs : l.length ≤ 1310720) (hp : p ≤ l.length) : DPure Tryz.prog 234 [dNds l, .int .i64 p] (.int .i64 (endI l p)) := by
 refine DPure_introF [] (fn := Tryz.f234) Tryz.func234 rfl Tryz.call234 (by simp [Tryz.ntmps234]) (by simp [mx]) ?_
 intro hwf B hnt
 simp only [Tryz.ntmps234] at hnt
 have hA := an_is anRY1234 Tryz.mixed (aj2 @anRY1234.eq_1 Tryz.results234)
 clear hwf
 simp only [argS]
 obtain ⟨R, hR⟩ : ∃ R, R = endI l p := ⟨_, rfl⟩
 rw [← hR]
 unfold endI at hR
 obtain ⟨E, hE⟩ : ∃ E, E = endN (l.drop p) 1 := ⟨_, rfl⟩
 rw [← hE] at hR
 (refine go1 aj0 aj0 aj0 ?_; intros; refine mk_i ?_)
 refine DW_loop (X := {q : Nat × Nat // q.1 ≤ l.length ∧ endN (l.drop q.1) q.2 = E ∧ q.2 ≤ 1 + q.1 * 1310720}) (fun q => ⟨[(0, dNds l), (1, .int .i64 q.1.1), (5, .int .i64 q.1.2)], []⟩) (fun q => l.length + 1 - q.1.1) ⟨(p, 1), hp, hE.symm, by simp only; omega⟩ (Sub.lit (by simp)) ?_
 clear hE
 rintro ⟨⟨k, w⟩, hk, hw, hwb⟩
 simp only at hk hw hwb ⊢
 cases w with
 | zero =>
  rw [endN_zero] at hw
  rw [← hw] at hR
  simp only [List.length_drop] at hR
  have hRk : R = k := by omega
  subst hRk
  exact go0 aj0 aj0 aj0
 | succ v =>
  have hv : (0 : Int) < (v : Int) + 1 := by omega
  by_cases hlt : k < l.length
  ·obtain ⟨x, hx, hx', _⟩ := at_lt' hlt
   rw [List.drop_eq_getElem_cons hlt, hx'] at hw
   have e1 := mayR_pure x
   simp only [dNd] at e1
   have hge : ¬ l.length ≤ k := by omega
   cases hm : mayN x
   ·rw [hm] at e1
    rw [endN_cons, hm] at hw
    simp only [Bool.false_eq_true, if_false] at hw
    rw [← hw] at hR
    simp only at hR
    subst hR
    exact go0 (aj1 e1) aj0 (aj6 @dNd.eq_1 hlt hge hx hx' hv)
   ·rw [hm] at e1
    have hk0 := mayN_kids hm
    obtain ⟨c, hcn⟩ : ∃ c : Nat, x.n = (c : Int) := ⟨x.n.toNat, by omega⟩
    rw [hcn] at e1
    rw [endN_cons, if_pos hm, hcn, Int.toNat_natCast] at hw
    by_cases hbig : l.length < c
    ·have hbig' : (l.length : Int) < (c : Int) := by omega
     rw [endN_big _ _ (by rw [List.length_drop]; omega)] at hw
     rw [← hw] at hR
     simp only at hR
     subst hR
     exact go0 (aj1 e1) aj0 (aj9 @dNd.eq_1 hlt hge hx hx' hv hcn hbig hbig')
    ·have hbig' : ¬ (l.length : Int) < (c : Int) := by omega
     have q1 : IntKind.i64.wrap ((v : Int)) = (v : Int) := wrap64_in (by omega) (by omega)
     have q2 : IntKind.i64.wrap ((v : Int) + (c : Int)) = (v : Int) + (c : Int) := wrap64_in (by omega) (by omega)
     (refine go1 (aj1 e1) aj0 (aj11 @dNd.eq_1 hlt hge hx hx' hv hcn hbig hbig' q1 q2) ?_; intros; refine mk_i ?_)
     refine Again.mk ⟨(k + 1, v + c), show k + 1 ≤ l.length ∧ endN (l.drop (k + 1)) (v + c) = E ∧ v + c ≤ 1 + (k + 1) * 1310720 from ⟨by omega, hw, by omega⟩⟩ (Sub.lit (by simp)) (by simp; omega)
     skip
  ·have hge : l.length ≤ k := by omega
   rw [List.drop_of_length_le hge, endN_nil] at hw
   rw [← hw] at hR
   simp only at hR
   subst hR
   exact go0 aj0 aj0 (aj2 hv hge)
def anRY1160 : Ann := ⟨[], []⟩
theorem isTree135_pure (l : List Nd) (hs : l.length ≤ 1310720) : DPure Tryz.prog 160 [dNds l] (.bool (wholeB l)) := by
 refine DPure_introF [] (fn := Tryz.f160) Tryz.func160 rfl Tryz.call160 (by simp [Tryz.ntmps160]) (by simp [mx]) ?_
 intro hwf B hnt
 simp only [Tryz.ntmps160] at hnt
 have hA := an_is anRY1160 Tryz.mixed (aj2 @anRY1160.eq_1 Tryz.results160)
 clear hwf
 simp only [argS]
 have e1 := end144_pure l 0 hs (by omega)
 unfold endI at e1
 unfold wholeB
 rw [List.drop_zero] at e1
 by_cases h0 : 0 < l.length
 ·cases hE : endN l 1 with
  | none =>
   rw [hE] at e1
   have hne : ((-1 : Int) == (l.length : Int)) = false := by simp
   exact go0 (aj1 e1) aj0 (aj2 h0 hne)
  | some r =>
   rw [hE] at e1
   cases r with
   | nil =>
    simp only [List.length_nil, Int.natCast_zero, Int.sub_zero] at e1
    exact go0 (aj1 e1) aj0 (aj1 h0)
   | cons y r =>
    have hne : (((l.length : Int) - ((y :: r).length : Int)) == (l.length : Int)) = false := by simp; omega
    obtain ⟨e, he⟩ : ∃ e : Int, e = (l.length : Int) - ((y :: r).length : Int) := ⟨_, rfl⟩
    rw [← he] at hne
    have e3 : DPure Tryz.prog 234 [dNds l, .int .i64 0] (.int .i64 e) := by rw [he]; exact e1
    exact go0 (aj1 e3) aj0 (aj2 h0 hne)
 ·have hl : l = [] := List.eq_nil_of_length_eq_zero (by omega)
  subst hl
  rw [endN_nil]
  exact go0 aj0 aj0 aj0
end Go.Proofs.YtdgocjbakjamaaaGreat
end

section
namespace Go.Proofs.YtdgocjbakjamaaaGreat
open Go Go.Dm
variable [DMode]
attribute [local irreducible] DW callP callS
set_option maxRecDepth 100000
def anRX2206 : Ann := ⟨[], [⟨5, [6], [], []⟩]⟩
set_option maxHeartbeats 4000000 in
theorem height109_pure (t : RT) (ht : okT t = true) (hs : (flat t).length ≤ 1310720) : DPure Tryz.prog 206 [dNds (flat t)] (.int .i64 (htT t)) := by
 refine DPure_introF [] (fn := Tryz.f206) Tryz.func206 rfl Tryz.call206 (by simp [Tryz.ntmps206]) (by simp [mx]) ?_
 intro hwf B hnt
 simp only [Tryz.ntmps206] at hnt
 have hA := an_is anRX2206 Tryz.mixed (aj2 @anRX2206.eq_1 Tryz.results206)
 clear hwf
 simp only [argS]
 have hR := height_flat ht
 have hmay := okT_all ht
 have hkle : ∀ x ∈ flat t, x.n ≤ 1310720 := fun x hx => by have := kids_leT t ht x hx; omega
 obtain ⟨l, hl⟩ : ∃ l, l = flat t := ⟨_, rfl⟩
 rw [← hl] at hR hmay hkle hs ⊢
 clear hl
 obtain ⟨R, hRR⟩ : ∃ R, R = htT t := ⟨_, rfl⟩
 rw [← hRR] at hR ⊢
 clear hRR ht
 (refine go1 aj0 aj0 aj0 ?_; intros; refine mk_i ?_)
 refine DW_adoptS 4 50 3 1 8 (by simp [hnt, Tryz.results206, anRX2206]) (fun n => ?_)
 refine DW_loop (X := {p : Nat × List Nat × Nat // p.1 ≤ l.length ∧ (l.drop p.1).foldl hstep (p.2.1, p.2.2) = ([], R) ∧ p.2.1.length ≤ p.1 ∧ p.2.2 ≤ p.1 ∧ pos p.2.1}) (fun p => ⟨[(3, .int .i64 p.1.2.2), (4, .osl 50 1), (7, dNds l), (8, .int .i64 l.length), (9, .int .i64 p.1.1)], [⟨50, 1, .row 3 1 8 (dstk p.1.2.1)⟩]⟩) (fun p => l.length - p.1.1) ⟨(0, [], 0), by simp [hR, pos]⟩ (Sub.lit (by simp [dstk_nil])) ?_
 rintro ⟨⟨k, s, m⟩, hk, hw, hsl, hmb, hpos⟩
 simp only at hk hw hsl hmb hpos ⊢
 clear hR
 by_cases hlt : k < l.length
 ·obtain ⟨x, hx, hx', hxm⟩ := at_lt' hlt
  rw [List.drop_eq_getElem_cons hlt, hx', List.foldl_cons] at hw
  have hk0 := mayN_kids (hmay x hxm)
  obtain ⟨c, hcn⟩ : ∃ c : Nat, x.n = (c : Int) := ⟨x.n.toNat, by omega⟩
  have hsp := hstep_pos (p := (s, m)) x (by have := hkle x hxm; omega) hpos
  have hslen := hstep_len (s, m) x
  unfold hstep at hw hsp hslen
  rw [hcn, Int.toNat_natCast] at hw hsp hslen
  simp only at hw hsp hslen
  obtain ⟨P, hP⟩ : ∃ P, P = (if c = 0 then fin s else c :: s) := ⟨_, rfl⟩
  rw [← hP] at hw hsp hslen
  have hmx : (if (m : Int) < (s.length : Int) + 1 then (s.length : Int) + 1 else (m : Int)) = ((max m (s.length + 1) : Nat) : Int) := by split <;> omega
  obtain ⟨m2, hm2⟩ : ∃ m2, m2 = max m (s.length + 1) := ⟨_, rfl⟩
  rw [← hm2] at hw hmx
  have hm2b : m2 ≤ k + 1 := by omega
  have z1 : (s.length + 1) * 8 ≤ 150000000000000 := by omega
  have z2 : s.length + 1 ≤ 9223372036854775807 := by omega
  have q1 : IntKind.i64.wrap ((s.length : Int) + 1) = (s.length : Int) + 1 := wrap64_in (by omega) (by omega)
  (refine go1 aj0 aj0 (aj10 @dNd.eq_1 hlt hx hx' hcn @dstk_len hmx z1 z2 q1) ?_; intros; refine mk_i ?_)
  refine DW_loop (X := {q : List Nat // popR q = P ∧ q.length ≤ k + 1 ∧ pos q.tail}) (fun q => ⟨[(3, .int .i64 m2), (4, .osl 50 1), (7, dNds l), (8, .int .i64 l.length), (9, .int .i64 k)], [⟨50, 1, .row 3 1 8 (dstk q.1)⟩]⟩) (fun q => q.1.length) ⟨c :: s, by rw [hP, popR_push], by simp; omega, hpos⟩ (Sub.lit (by simp [hmx, dstk_cons, mxR_append])) ?_
  rintro ⟨q, hq1, hq2, hq3⟩
  simp only
  match q, hq1, hq2, hq3 with
  | [], hq1, hq2, hq3 =>
   have hP2 : P = [] := by rw [← hq1]; rfl
   (refine go1 aj0 aj0 (aj1 @dstk_nil) ?_; intros; refine mk_i ?_)
   refine Again.mk ⟨(k + 1, P, m2), show k + 1 ≤ l.length ∧ (l.drop (k + 1)).foldl hstep (P, m2) = ([], R) ∧ P.length ≤ k + 1 ∧ m2 ≤ k + 1 ∧ pos P from ⟨by omega, hw, by omega, hm2b, hsp⟩⟩ (Sub.lit (by simp [hP2, dstk_nil])) (by simp; omega)
   skip
  | d :: q, hq1, hq2, hq3 =>
   have hql : q.length ≤ k := by simpa using hq2
   have hlen : (dstk (d :: q)).length = q.length + 1 := by rw [dstk_len]; rfl
   have htop := dstk_top d q
   have htk := dstk_take d q
   have q2 : IntKind.i64.wrap ((q.length : Int)) = (q.length : Int) := wrap64_in (by omega) (by omega)
   obtain ⟨D, hD⟩ : ∃ D, D = dstk (d :: q) := ⟨_, rfl⟩
   rw [← hD] at hlen htop htk ⊢
   have hltD : q.length < D.length := by omega
   have htop' : D[q.length]'hltD = [.int .i64 (d : Int)] := (List.getElem?_eq_some_iff.1 htop).2
   have hp0 : (0 : Int) < (q.length : Int) + 1 := by omega
   cases d with
   | zero =>
    cases q with
    | nil =>
     have hP2 : P = [] := by rw [← hq1]; rfl
     have q0 : IntKind.i64.wrap 0 = 0 := by decide
     simp only [List.length_nil, Nat.zero_add] at hlen htop htop' htk hltD
     (repeat (first | (refine DW_truncS 4 ?_ (fun _ => ?_); (· (simp [hnt, hlen, htop, htop', hltD, hp0, htk, dstk_nil, q0]; done)); (try simp [hnt, hlen, htop, htop', hltD, hp0, htk, dstk_nil, q0])) | refine DW_seq fun K hK => ?_ | (refine DW_r anRX2206 Tryz.mixed (by kernel_rfl) ?_; simp [anRX2206, hnt, hlen, htop, htop', hltD, hp0, htk, dstk_nil, q0]; try simp (disch := omega) only [wrap64_in]) | refine DW_block ?_ | (refine DW_if ?_ ?_ ?_; (· (simp [hnt, hlen, htop, htop', hltD, hp0, htk, dstk_nil, q0]; done)); (try (rotate_left; (· (intro hc; (try simp [hnt, hlen, htop, htop', hltD, hp0, htk, dstk_nil, q0] at hc); done))))) | (refine DW_ret ?_; simp [Tryz.results206, hnt, hlen, htop, htop', hltD, hp0, htk, dstk_nil, q0]) | ((first | refine DW_exit ?_ | refine DW_skip ?_); simp [hnt, hlen, htop, htop', hltD, hp0, htk, dstk_nil, q0]) | (intro hc; (try simp [hnt, hlen, htop, htop', hltD, hp0, htk, dstk_nil, q0] at hc); (try (exfalso; omega))) | (refine ⟨?_, ?_⟩; · omega) | omega | apply_assumption -exfalso -symm | (exfalso; omega)))
     refine Again.mk ⟨[], hP2.symm, by simp, by simp [pos]⟩ (Sub.lit (by simp [dstk_nil])) (by simp)
     skip
    | cons e q =>
     obtain ⟨he1, he9⟩ := hq3 e (by simp)
     have q5 : IntKind.i64.wrap ((e - 1 : Nat) : Int) = ((e - 1 : Nat) : Int) := wrap64_in (by omega) (by omega)
     have hP2 : popR ((e - 1) :: q) = P := by rw [popR_step he1, ← hq1]; rfl
     have hpq : pos q := fun c hc => hq3 c (by simp [hc])
     simp only [List.length_cons] at hlen htop htop' htk hltD q2 hp0 hql
     have hlen2 : (dstk (e :: q)).length = q.length + 1 := by rw [dstk_len]; rfl
     have htop2 := dstk_top e q
     have hset := dstk_set e (e - 1) q
     obtain ⟨E, hE⟩ : ∃ E, E = dstk (e :: q) := ⟨_, rfl⟩
     rw [← hE] at hlen2 htop2 hset htk
     have hltE : q.length < E.length := by omega
     have htop2' : E[q.length]'hltE = [.int .i64 (e : Int)] := (List.getElem?_eq_some_iff.1 htop2).2
     have q3 : IntKind.i64.wrap ((q.length : Int) + 1) = (q.length : Int) + 1 := wrap64_in (by omega) (by omega)
     have q4 : IntKind.i64.wrap ((q.length : Int)) = (q.length : Int) := wrap64_in (by omega) (by omega)
     have he2 : (e : Int) - 1 = ((e - 1 : Nat) : Int) := by omega
     have hp1 : (0 : Int) < (q.length : Int) + 1 := by omega
     have hp2 : (0 : Int) < (q.length : Int) + 1 + 1 := by omega
     (repeat (first | (refine DW_truncS 4 ?_ (fun _ => ?_); (· (simp [hnt, hlen, htop, htop', hltD, hp0, hp1, hp2, htk, q3, q4, hlen2, htop2, htop2', hltE, he2, hset, q5]; done)); (try simp [hnt, hlen, htop, htop', hltD, hp0, hp1, hp2, htk, q3, q4, hlen2, htop2, htop2', hltE, he2, hset, q5])) | refine DW_seq fun K hK => ?_ | (refine DW_r anRX2206 Tryz.mixed (by kernel_rfl) ?_; simp [anRX2206, hnt, hlen, htop, htop', hltD, hp0, hp1, hp2, htk, q3, q4, hlen2, htop2, htop2', hltE, he2, hset, q5]; try simp (disch := omega) only [wrap64_in]) | refine DW_block ?_ | (refine DW_if ?_ ?_ ?_; (· (simp [hnt, hlen, htop, htop', hltD, hp0, hp1, hp2, htk, q3, q4, hlen2, htop2, htop2', hltE, he2, hset, q5]; done)); (try (rotate_left; (· (intro hc; (try simp [hnt, hlen, htop, htop', hltD, hp0, hp1, hp2, htk, q3, q4, hlen2, htop2, htop2', hltE, he2, hset, q5] at hc); done))))) | (refine DW_ret ?_; simp [Tryz.results206, hnt, hlen, htop, htop', hltD, hp0, hp1, hp2, htk, q3, q4, hlen2, htop2, htop2', hltE, he2, hset, q5]) | ((first | refine DW_exit ?_ | refine DW_skip ?_); simp [hnt, hlen, htop, htop', hltD, hp0, hp1, hp2, htk, q3, q4, hlen2, htop2, htop2', hltE, he2, hset, q5]) | (intro hc; (try simp [hnt, hlen, htop, htop', hltD, hp0, hp1, hp2, htk, q3, q4, hlen2, htop2, htop2', hltE, he2, hset, q5] at hc); (try (exfalso; omega))) | (refine ⟨?_, ?_⟩; · omega) | omega | apply_assumption -exfalso -symm | (exfalso; omega)))
     refine Again.mk ⟨(e - 1) :: q, hP2, by simp; omega, hpq⟩ (Sub.lit (by simp)) (by simp)
     skip
   | succ d =>
    have hP2 : P = (d + 1) :: q := by rw [← hq1]; rfl
    have hd0 : ¬ (d : Int) + 1 = 0 := by omega
    have hd0' : (((d : Int) + 1) == 0) = false := by simpa using hd0
    (refine go1 aj0 aj0 (aj8 hlen htop htop' hltD q2 hp0 hd0 hd0') ?_; intros; refine mk_i ?_)
    refine Again.mk ⟨(k + 1, P, m2), show k + 1 ≤ l.length ∧ (l.drop (k + 1)).foldl hstep (P, m2) = ([], R) ∧ P.length ≤ k + 1 ∧ m2 ≤ k + 1 ∧ pos P from ⟨by omega, hw, by omega, hm2b, hsp⟩⟩ (Sub.lit (by simp [hP2, hD])) (by simp; omega)
    skip
 ·have hkk : k = l.length := by omega
  subst hkk
  rw [List.drop_length] at hw
  simp only [List.foldl_nil, _root_.Prod.mk.injEq] at hw
  obtain ⟨rfl, rfl⟩ := hw
  exact go0 aj0 aj0 aj0
end Go.Proofs.YtdgocjbakjamaaaGreat
end

section
namespace Go.Proofs.YtdgocjbakjamaaaGreat
open Go Go.Dm
variable [DMode]
attribute [local irreducible] DW callP callS
set_option maxRecDepth 100000
def dT (t : RT) : List DVal := [dNds (flat t)]
abbrev dTs (ts : List RT) : DVal := .sl 1 24 (ts.map dT)
@[simp] theorem mx_dT (t : RT) : mxL (dT t) = 0 := by simp [dT, mxL, mx]
@[simp] theorem mx_dTs (l : List RT) : mxR (l.map dT) = 0 := mxR0 _ mx_dT l
theorem flatL_take {ks : List RT} {i : Nat} {t : RT} (h : ks[i]? = some t) : (flatL (ks.take (i + 1))).length = (flatL (ks.take i)).length + (flat t).length := by
 rw [List.take_add_one, h, flatL_app, List.length_append]
 simp [flatL]
theorem flatL_split (ks : List RT) (i : Nat) : flatL ks = flatL (ks.take i) ++ flatL (ks.drop i) := by rw [← flatL_app, List.take_append_drop]
def anRX3155 : Ann := ⟨[], []⟩
set_option maxHeartbeats 4000000 in
theorem kids86_pure (x : Nd) (ks : List RT) (ht : okT (.mk x ks) = true) (hs : (flat (.mk x ks)).length ≤ 1310720) : DPure Tryz.prog 155 [dNds (flat (.mk x ks))] (dTs ks) := by
 refine DPure_introF [60] (fn := Tryz.f155) Tryz.func155 rfl Tryz.call155 (by simp [Tryz.ntmps155]) (by simp [mx]) ?_
 intro hwf B hnt
 simp only [Tryz.ntmps155] at hnt
 have hA := an_is anRX3155 Tryz.mixed (aj2 @anRX3155.eq_1 Tryz.results155)
 clear hwf
 simp only [argS]
 obtain ⟨hm, hn, hok⟩ := okT_mk ht
 have hmay := okT_all ht
 have hkle := kids_leT _ ht
 obtain ⟨l, hl⟩ : ∃ l, l = flat (.mk x ks) := ⟨_, rfl⟩
 have hl2 : l = x :: flatL ks := by rw [hl, flat_mk]
 rw [← hl] at hmay hkle hs ⊢
 have h0 : l[0]? = some x := by rw [hl2]; rfl
 have hlen : l.length = (flatL ks).length + 1 := by rw [hl2]; simp
 have hlt0 : 0 < l.length := by omega
 have h0' : l[0]'hlt0 = x := (List.getElem?_eq_some_iff.1 h0).2
 have hks : ks.length ≤ 1310720 := by have := flatL_len ks; omega
 (refine go1 aj0 aj0 (aj5 @dNd.eq_1 h0 h0' hlt0 hn) ?_; intros; refine mk_i ?_)
 refine DW_adoptS 3 60 42 1 24 (by simp [hnt, Tryz.results155, anRX3155]) (fun n => ?_)
 refine DW_loop (X := {i : Nat // i ≤ ks.length}) (fun i => ⟨[(0, dNds l), (3, .osl 60 1), (4, .int .i64 (1 + (flatL (ks.take i.1)).length : Nat)), (10, .int .i64 ks.length), (11, .int .i64 i.1)], [⟨60, 1, .row 42 1 24 ((ks.take i.1).map dT)⟩]⟩) (fun i => ks.length - i.1) ⟨0, by omega⟩ (Sub.lit (by simp [flatL])) ?_
 rintro ⟨i, hi⟩
 simp only
 by_cases hlt : i < ks.length
 ·obtain ⟨t, htk, ht', _⟩ := at_lt' hlt
  have hsp := flatL_split ks i
  have hdr := List.drop_eq_getElem_cons hlt
  rw [ht'] at hdr
  have hokd : okL (ks.drop i) = true := by
   have := okL_app (ks.take i) (ks.drop i)
   rw [List.take_append_drop, hok] at this
   simpa using (by simpa using this.symm : okL (ks.take i) = true ∧ okL (ks.drop i) = true).2
  rw [hdr] at hokd
  obtain ⟨hokt, hokr⟩ := okL_cons hokd
  obtain ⟨A, hA⟩ : ∃ A, A = 1 + (flatL (ks.take i)).length := ⟨_, rfl⟩
  obtain ⟨r, hr⟩ : ∃ r, r = flatL (ks.drop (i + 1)) := ⟨_, rfl⟩
  have hdrop : l.drop A = flat t ++ r := by
   rw [hl2, hA, Nat.add_comm, List.drop_succ_cons, hsp, List.drop_append_of_le_length (Nat.le_refl _), List.drop_length, List.nil_append, hdr, flatL_cons, hr]
  have hend : endN (l.drop A) 1 = some r := by rw [hdrop, endN_flat t r 0 hokt, endN_zero]
  have hA2 : A + (flat t).length + r.length = l.length := by
   have := congrArg List.length hdrop
   rw [List.length_drop, List.length_append] at this
   have := flat_len t
   omega
  have hnext := flatL_take htk
  rw [← hA]
  clear hsp hdr hokd hokr
  (repeat (first | refine DW_seq fun K hK => ?_ | (refine DW_r anRX3155 Tryz.mixed (by kernel_rfl) ?_; simp [anRX3155, hnt, hlt]; try simp (disch := omega) only [wrap64_in]) | refine DW_block ?_ | (refine DW_if ?_ ?_ ?_; (· (simp [hnt, hlt]; done)); (try (rotate_left; (· (intro hc; (try simp [hnt, hlt] at hc); done))))) | (refine DW_ret ?_; simp [Tryz.results155, hnt, hlt]) | ((first | refine DW_exit ?_ | refine DW_skip ?_); simp [hnt, hlt]) | (intro hc; (try simp [hnt, hlt] at hc); (try (exfalso; omega))) | (refine ⟨?_, ?_⟩; · omega) | omega | apply_assumption -exfalso -symm | (exfalso; omega)))
  refine DW_loop (X := {p : Nat × Nat // p.1 ≤ l.length ∧ endN (l.drop p.1) p.2 = some r ∧ p.2 ≤ 1 + p.1 * 1310720 ∧ A ≤ p.1}) (fun p => ⟨[(0, dNds l), (3, .osl 60 1), (4, .int .i64 p.1.1), (5, .int .i64 A), (6, .int .i64 p.1.2), (10, .int .i64 ks.length), (11, .int .i64 i)], [⟨60, 1, .row 42 1 24 ((ks.take i).map dT)⟩]⟩) (fun p => l.length - p.1.1) ⟨(A, 1), show A ≤ l.length ∧ endN (l.drop A) 1 = some r ∧ 1 ≤ 1 + A * 1310720 ∧ A ≤ A from ⟨by omega, hend, by omega, Nat.le_refl _⟩⟩ (Sub.lit (by simp)) ?_
  rintro ⟨⟨k, w⟩, hk, hw, hwb, hAk⟩
  simp only at hk hw hwb hAk ⊢
  cases w with
  | zero =>
   rw [endN_zero] at hw
   simp only [Option.some.injEq] at hw
   have hkl : k = A + (flat t).length := by
    have := congrArg List.length hw
    rw [List.length_drop] at this
    omega
   have z1 : ((ks.take i).length + 1) * 24 ≤ 150000000000000 := by rw [List.length_take]; omega
   have z2 : (ks.take i).length + 1 ≤ 9223372036854775807 := by rw [List.length_take]; omega
   have hpiece : (l.drop A).take (k - A) = flat t := by rw [hkl, Nat.add_sub_cancel_left, hdrop]; simp
   have hkk : A ≤ l.length := by omega
   (repeat (first | refine DW_seq fun K hK => ?_ | (refine DW_r anRX3155 Tryz.mixed (by kernel_rfl) ?_; simp [anRX3155, hnt, hlt, hk, hAk, hkk]; try simp (disch := omega) only [wrap64_in]) | refine DW_block ?_ | (refine DW_if ?_ ?_ ?_; (· (simp [hnt, hlt, hk, hAk, hkk]; done)); (try (rotate_left; (· (intro hc; (try simp [hnt, hlt, hk, hAk, hkk] at hc); done))))) | (refine DW_ret ?_; simp [Tryz.results155, hnt, hlt, hk, hAk, hkk]) | ((first | refine DW_exit ?_ | refine DW_skip ?_); simp [hnt, hlt, hk, hAk, hkk]) | (intro hc; (try simp [hnt, hlt, hk, hAk, hkk] at hc); (try (exfalso; omega))) | (refine ⟨?_, ?_⟩; · omega) | omega | apply_assumption -exfalso -symm | (exfalso; omega)))
   have hpD : List.take (k - A) (List.drop A (List.map dNd l)) = (flat t).map dNd := by rw [← List.map_drop, ← List.map_take, hpiece]
   have htm : List.take (i + 1) (List.map dT ks) = List.take i (List.map dT ks) ++ [dT t] := by rw [List.take_add_one, List.getElem?_map, htk]; rfl
   have hat : (1 : Int) + ((flatL (List.take (i + 1) ks)).length : Int) = (k : Int) := by omega
   refine Again.mk ⟨i + 1, by omega⟩ (Sub.lit (by simp [hpD, htm, hat, dT, mxR_append])) (by simp; omega)
   skip
  | succ v =>
   have hlt2 : k < l.length := by
    rcases Nat.lt_or_ge k l.length with h | h
    ·exact h
    ·rw [List.drop_of_length_le h, endN_nil] at hw; simp at hw
   obtain ⟨y, hy, hy', hym⟩ := at_lt' hlt2
   rw [List.drop_eq_getElem_cons hlt2, hy', endN_cons, if_pos (hmay y hym)] at hw
   have hk0 := mayN_kids (hmay y hym)
   have hk9 := hkle y hym
   obtain ⟨c, hcn⟩ : ∃ c : Nat, y.n = (c : Int) := ⟨y.n.toNat, by omega⟩
   rw [hcn, Int.toNat_natCast] at hw
   have q1 : IntKind.i64.wrap ((c : Int) - 1) = (c : Int) - 1 := wrap64_in (by omega) (by omega)
   have q2 : IntKind.i64.wrap ((v : Int) + 1 + ((c : Int) - 1)) = (v : Int) + (c : Int) := by rw [wrap64_in (by omega) (by omega)]; omega
   have q3 : (0 : Int) < (v : Int) + 1 := by omega
   (repeat (first | refine DW_seq fun K hK => ?_ | (refine DW_r anRX3155 Tryz.mixed (by kernel_rfl) ?_; simp [anRX3155, hnt, dNd, hlt2, hy, hy', hcn, q1, q2, q3]; try simp (disch := omega) only [wrap64_in]) | refine DW_block ?_ | (refine DW_if ?_ ?_ ?_; (· (simp [hnt, dNd, hlt2, hy, hy', hcn, q1, q2, q3]; done)); (try (rotate_left; (· (intro hc; (try simp [hnt, dNd, hlt2, hy, hy', hcn, q1, q2, q3] at hc); done))))) | (refine DW_ret ?_; simp [Tryz.results155, hnt, dNd, hlt2, hy, hy', hcn, q1, q2, q3]) | ((first | refine DW_exit ?_ | refine DW_skip ?_); simp [hnt, dNd, hlt2, hy, hy', hcn, q1, q2, q3]) | (intro hc; (try simp [hnt, dNd, hlt2, hy, hy', hcn, q1, q2, q3] at hc); (try (exfalso; omega))) | (refine ⟨?_, ?_⟩; · omega) | omega | apply_assumption -exfalso -symm | (exfalso; omega)))
   refine Again.mk ⟨(k + 1, v + c), show k + 1 ≤ l.length ∧ endN (l.drop (k + 1)) (v + c) = some r ∧ v + c ≤ 1 + (k + 1) * 1310720 ∧ A ≤ k + 1 from ⟨by omega, hw, by omega, by omega⟩⟩ (Sub.lit (by simp)) (by simp; omega)
   skip
 ·have hkk : i = ks.length := by omega
  subst hkk
  exact go0 aj0 aj0 (aj1 (@List.take_length.{0}))
end Go.Proofs.YtdgocjbakjamaaaGreat
end

section
namespace Go.Proofs.YtdgocjbakjamaaaGreat
open Go Go.Dm
variable [DMode]
attribute [local irreducible] DW callP callS
set_option maxRecDepth 100000
def anRX4267 : Ann := ⟨[], []⟩
theorem sign156_pure (k : Int) : DPure Tryz.prog 267 [.int .i64 k] (.str (sgn k)) := by
 refine DPure_introF [] (fn := Tryz.f267) Tryz.func267 rfl Tryz.call267 (by simp [Tryz.ntmps267]) (by simp [mx]) ?_
 intro hwf B hnt
 simp only [Tryz.ntmps267] at hnt
 have hA := an_is anRX4267 Tryz.mixed (aj2 @anRX4267.eq_1 Tryz.results267)
 simp only [argS]
 have z0 : (⟨#[]⟩ : ByteArray).size = 0 := rfl
 have z1 : (⟨#[42]⟩ : ByteArray).size = 1 := rfl
 have z2 : (⟨#[43]⟩ : ByteArray).size = 1 := rfl
 have z3 : (⟨#[63]⟩ : ByteArray).size = 1 := rfl
 have m1 : 1 ≤ maxLen := by decide
 unfold sgn
 by_cases k6 : k = 6
 ·exact go0 aj0 aj0 (aj6 z0 z1 z2 z3 m1 k6)
 by_cases k7 : k = 7
 ·exact go0 aj0 aj0 (aj7 z0 z1 z2 z3 m1 k6 k7)
 by_cases k8 : k = 8
 ·exact go0 aj0 aj0 (aj8 z0 z1 z2 z3 m1 k6 k7 k8)
 exact go0 aj0 aj0 (aj8 z0 z1 z2 z3 m1 k6 k7 k8)
theorem le_sum {l : List Nat} {a : Nat} (h : a ∈ l) : a ≤ l.sum := by
 induction l with
 | nil => simp at h
 | cons b l ih =>
  rw [List.sum_cons]
  rcases List.mem_cons.1 h with rfl | h
  ·omega
  ·have := ih h; omega
theorem txtL_take {pk : Int} {ks : List RT} {i : Nat} {t : RT} (h : ks[i]? = some t) : txtL pk (ks.take (i + 1)) = txtL pk (ks.take i) ++ [parT pk t.x.k (txtT t)] := by
 rw [txtL_map, txtL_map, List.take_add_one, h, List.map_append]; rfl
theorem txtL_len (pk : Int) (ks : List RT) : (txtL pk ks).length = ks.length := by rw [txtL_map, List.length_map]
theorem flat_head (t : RT) : (flat t)[0]? = some t.x := by cases t; rfl
theorem flatL_mem {ks : List RT} {t : RT} (h : t ∈ ks) : (flat t).length ≤ (flatL ks).length := by
 induction ks with
 | nil => simp at h
 | cons u ks ih =>
  rw [flatL_cons, List.length_append]
  rcases List.mem_cons.1 h with rfl | h
  ·omega
  ·have := ih h; omega
def anRX4207 : Ann := ⟨[], [⟨1, [3], [], []⟩]⟩
set_option maxHeartbeats 8000000 in
theorem text110_pure : ∀ (n : Nat) (t : RT), (flat t).length = n → okT t = true → (flat t).length ≤ 1310720 → DPure Tryz.prog 207 [dNds (flat t)] (.str (txtT t)) := by
 intro n
 induction n using Nat.strongRecOn with
 | ind n ih =>
 intro t hn ht hs
 obtain ⟨x, ks⟩ := t
 have kk := kids86_pure x ks ht hs
 obtain ⟨hm, hkn, hok⟩ := okT_mk ht
 have hsz := (txt_sizeT _ ht)
 have h0 := flat_head (.mk x ks)
 have hlt0 : 0 < (flat (.mk x ks)).length := flat_len _
 have hfl : (flat (.mk x ks)).length = (flatL ks).length + 1 := by rw [flat_mk, List.length_cons]
 have hkl := flatL_len ks
 have hch : ∀ u ∈ ks, DPure Tryz.prog 207 [dNds (flat u)] (.str (txtT u)) := fun u hu => by
  have := flatL_mem hu
  exact ih (flat u).length (by omega) u rfl (okL_mem hok u hu) (by omega)
 have hsj := txt_sizeL x.k ks hok
 have hparts : ∀ y ∈ txtL x.k ks, 1 ≤ y.size ∧ y.size ≤ 67108864 := fun y hy => by
  refine ⟨hsj.2 y hy, ?_⟩
  have : y.size + 3 ≤ ((txtL x.k ks).map fun y => y.size + 3).sum := le_sum (List.mem_map.2 ⟨y, hy, rfl⟩)
  omega
 have kj := join_pure (txtL x.k ks) (btw x.k) (btw_size _) (by rw [txtL_len]; omega) hparts
 have kg := sign156_pure x.k
 have hjs := joinB_size (txtL x.k ks) (btw x.k) (btw_size _)
 have hgs := sgn_size x.k
 rw [txtT_mk]
 have hbig : ((txtL x.k ks).map fun y => y.size + 3).sum ≤ 31457280 := by omega
 clear ih hn hsz
 obtain ⟨l, hl⟩ : ∃ l, l = flat (.mk x ks) := ⟨_, rfl⟩
 rw [← hl] at kk h0 hlt0 ⊢
 have h0' : l[0]'hlt0 = x := (List.getElem?_eq_some_iff.1 h0).2
 have z0 : (⟨#[]⟩ : ByteArray).size = 0 := rfl
 have z1 : (⟨#[37]⟩ : ByteArray).size = 1 := rfl
 have z2 : (⟨#[32]⟩ : ByteArray).size = 1 := rfl
 have z3 : (⟨#[32, 124, 32]⟩ : ByteArray).size = 3 := rfl
 have z4 : (⟨#[40]⟩ : ByteArray).size = 1 := rfl
 have z5 : (⟨#[41]⟩ : ByteArray).size = 1 := rfl
 have m1 : 1 ≤ maxLen := by decide
 have m3 : 3 ≤ maxLen := by decide
 refine DPure_introF [] (fn := Tryz.f207) Tryz.func207 rfl Tryz.call207 (by simp [Tryz.ntmps207]) (by simp [mx]) ?_
 intro hwf B hnt
 simp only [Tryz.ntmps207] at hnt
 have hA := an_is anRX4207 Tryz.mixed (aj2 @anRX4207.eq_1 Tryz.results207)
 clear hwf
 simp only [argS]
 obtain ⟨b, hb⟩ : ∃ b, b = btw x.k := ⟨_, rfl⟩
 have hbz : b = btw x.k := hb
 rw [← hb] at kj ⊢
 unfold btw at hb
 rcases mayN_kind hm with k | k | k | k | k | k | k | k
 ·exact go0 (aj1 kk) aj0 (aj8 @dNd.eq_1 h0 h0' hlt0 z0 z1 m1 k)
 ·exact go0 (aj1 kk) aj0 (aj8 @dNd.eq_1 h0 h0' hlt0 z0 z1 m1 k)
 ·exact go0 (aj1 kk) aj0 (aj8 @dNd.eq_1 h0 h0' hlt0 z0 z1 m1 k)
 all_goals
  have k1 : ¬ x.k = 1 := by omega
  have k2 : ¬ (x.k = 2 ∨ x.k = 3) := by omega
  rw [if_neg k1, if_neg k2]
  have hb2 := hb
  simp only [k] at hb2
  try simp at hb2
  (refine go1 (aj1 kk) aj0 (aj11 @dNd.eq_1 h0 h0' hlt0 z0 z1 z2 z3 m1 m3 k) ?_; intros; refine mk_i ?_)
  refine DW_adoptS 5 50 9 1 16 (by simp [hnt, Tryz.results207, anRX4207]) (fun n => ?_)
  refine DW_loop (X := {i : Nat // i ≤ ks.length}) (fun i => ⟨[(3, .ref [.int .i64 x.k, .str x.s, .int .i64 x.n]), (4, .str b), (5, .osl 50 1), (26, dTs ks), (27, .int .i64 ks.length), (28, .int .i64 i.1)], [⟨50, 1, .row 9 1 16 ((txtL x.k (ks.take i.1)).map dStr)⟩]⟩) (fun i => ks.length - i.1) ⟨0, by omega⟩ (Sub.lit (by simp [k, hb2, txtL_nil])) ?_
  clear hb hb2 k kk
  rintro ⟨i, hi⟩
  simp only
  by_cases hlt : i < ks.length
  ·obtain ⟨u, hu, hu', hum⟩ := at_lt' hlt
   have ku := hch u hum
   have g0 := flat_head u
   have gl : 0 < (flat u).length := flat_len u
   have hus := txt_sizeT u (okL_mem hok u hum)
   have hul := flatL_mem hum
   have htk := txtL_take (pk := x.k) hu
   have hpt : parT x.k u.x.k (txtT u) = if parB x.k u.x.k then ⟨#[40]⟩ ++ txtT u ++ ⟨#[41]⟩ else txtT u := rfl
   unfold parB at hpt
   obtain ⟨m, hm2⟩ : ∃ m, m = flat u := ⟨_, rfl⟩
   have hfm : flat u = m := hm2.symm
   rw [← hm2] at ku g0 gl hus hul
   obtain ⟨s, hs2⟩ : ∃ s, s = txtT u := ⟨_, rfl⟩
   rw [← hs2] at ku hus hpt htk
   have g0' : m[0]'gl = u.x := (List.getElem?_eq_some_iff.1 g0).2
   obtain ⟨P, hP⟩ : ∃ P, P = parT x.k u.x.k s := ⟨_, rfl⟩
   rw [← hP] at hpt htk
   have hl1 : (txtL x.k (ks.take i)).length = i := by rw [txtL_len, List.length_take]; omega
   obtain ⟨T, hT⟩ : ∃ T, T = txtL x.k (ks.take i) := ⟨_, rfl⟩
   rw [← hT] at htk hl1 ⊢
   have y1 : (i + 1) * 16 ≤ 150000000000000 := by omega
   have y2 : i + 1 ≤ 9223372036854775807 := by omega
   have y3 : 1 + s.size ≤ maxLen := by unfold maxLen; omega
   have y4 : 1 + s.size + 1 ≤ maxLen := by unfold maxLen; omega
   by_cases p5 : u.x.k = 5
   ·simp [p5] at hpt
    (repeat (first | refine DW_seq fun K hK => ?_ | (refine DW_r anRX4207 Tryz.mixed (by kernel_rfl) ?_; simp [anRX4207, hnt, dT, dNd, hfm, hlt, hu, hu', g0, g0', gl, p5, y1, y2, y3, y4, z4, z5, m1, hl1, ByteArray.size_append]; try simp (disch := omega) only [wrap64_in]) | refine DW_block ?_ | (refine DW_if ?_ ?_ ?_; (· (simp [hnt, dT, dNd, hfm, hlt, hu, hu', g0, g0', gl, p5, y1, y2, y3, y4, z4, z5, m1, hl1, ByteArray.size_append]; done)); (try (rotate_left; (· (intro hc; (try simp [hnt, dT, dNd, hfm, hlt, hu, hu', g0, g0', gl, p5, y1, y2, y3, y4, z4, z5, m1, hl1, ByteArray.size_append] at hc); done))))) | (refine DW_ret ?_; simp [Tryz.results207, hnt, dT, dNd, hfm, hlt, hu, hu', g0, g0', gl, p5, y1, y2, y3, y4, z4, z5, m1, hl1, ByteArray.size_append]) | ((first | refine DW_exit ?_ | refine DW_skip ?_); simp [hnt, dT, dNd, hfm, hlt, hu, hu', g0, g0', gl, p5, y1, y2, y3, y4, z4, z5, m1, hl1, ByteArray.size_append]) | (intro hc; (try simp [hnt, dT, dNd, hfm, hlt, hu, hu', g0, g0', gl, p5, y1, y2, y3, y4, z4, z5, m1, hl1, ByteArray.size_append] at hc); (try (exfalso; omega))) | ((first | refine callP_mk (ku) ?_ | (refine callP_wk (ku) ?_ ?_; (· (simp; done)))); try simp [hnt, dT, dNd, hfm, hlt, hu, hu', g0, g0', gl, p5, y1, y2, y3, y4, z4, z5, m1, hl1, ByteArray.size_append]) | (refine ⟨?_, ?_⟩; · omega) | omega | apply_assumption -exfalso -symm | (exfalso; omega)))
    refine Again.mk ⟨i + 1, by omega⟩ (Sub.lit (by simp [htk, hpt, dStr])) (by simp; omega)
    skip
   ·have p5' : (u.x.k == 5) = false := by simpa using p5
    by_cases p4 : u.x.k = 4
    ·by_cases q5 : x.k = 5
     ·simp [p4, q5] at hpt
      (repeat (first | refine DW_seq fun K hK => ?_ | (refine DW_r anRX4207 Tryz.mixed (by kernel_rfl) ?_; simp [anRX4207, hnt, dT, dNd, hfm, hlt, hu, hu', g0, g0', gl, p4, p5, p5', q5, y1, y2, y3, y4, z4, z5, m1, hl1, ByteArray.size_append]; try simp (disch := omega) only [wrap64_in]) | refine DW_block ?_ | (refine DW_if ?_ ?_ ?_; (· (simp [hnt, dT, dNd, hfm, hlt, hu, hu', g0, g0', gl, p4, p5, p5', q5, y1, y2, y3, y4, z4, z5, m1, hl1, ByteArray.size_append]; done)); (try (rotate_left; (· (intro hc; (try simp [hnt, dT, dNd, hfm, hlt, hu, hu', g0, g0', gl, p4, p5, p5', q5, y1, y2, y3, y4, z4, z5, m1, hl1, ByteArray.size_append] at hc); done))))) | (refine DW_ret ?_; simp [Tryz.results207, hnt, dT, dNd, hfm, hlt, hu, hu', g0, g0', gl, p4, p5, p5', q5, y1, y2, y3, y4, z4, z5, m1, hl1, ByteArray.size_append]) | ((first | refine DW_exit ?_ | refine DW_skip ?_); simp [hnt, dT, dNd, hfm, hlt, hu, hu', g0, g0', gl, p4, p5, p5', q5, y1, y2, y3, y4, z4, z5, m1, hl1, ByteArray.size_append]) | (intro hc; (try simp [hnt, dT, dNd, hfm, hlt, hu, hu', g0, g0', gl, p4, p5, p5', q5, y1, y2, y3, y4, z4, z5, m1, hl1, ByteArray.size_append] at hc); (try (exfalso; omega))) | ((first | refine callP_mk (ku) ?_ | (refine callP_wk (ku) ?_ ?_; (· (simp; done)))); try simp [hnt, dT, dNd, hfm, hlt, hu, hu', g0, g0', gl, p4, p5, p5', q5, y1, y2, y3, y4, z4, z5, m1, hl1, ByteArray.size_append]) | (refine ⟨?_, ?_⟩; · omega) | omega | apply_assumption -exfalso -symm | (exfalso; omega)))
      have htk5 := htk
      rw [q5] at htk5
      refine Again.mk ⟨i + 1, by omega⟩ (Sub.lit (by simp [htk5, hpt, dStr, q5])) (by simp; omega)
      skip
     ·have q5' : (x.k == 5) = false := by simpa using q5
      simp [p4, q5] at hpt
      (repeat (first | refine DW_seq fun K hK => ?_ | (refine DW_r anRX4207 Tryz.mixed (by kernel_rfl) ?_; simp [anRX4207, hnt, dT, dNd, hfm, hlt, hu, hu', g0, g0', gl, p4, p5, p5', q5, q5', y1, y2, y3, y4, z4, z5, m1, hl1, ByteArray.size_append]; try simp (disch := omega) only [wrap64_in]) | refine DW_block ?_ | (refine DW_if ?_ ?_ ?_; (· (simp [hnt, dT, dNd, hfm, hlt, hu, hu', g0, g0', gl, p4, p5, p5', q5, q5', y1, y2, y3, y4, z4, z5, m1, hl1, ByteArray.size_append]; done)); (try (rotate_left; (· (intro hc; (try simp [hnt, dT, dNd, hfm, hlt, hu, hu', g0, g0', gl, p4, p5, p5', q5, q5', y1, y2, y3, y4, z4, z5, m1, hl1, ByteArray.size_append] at hc); done))))) | (refine DW_ret ?_; simp [Tryz.results207, hnt, dT, dNd, hfm, hlt, hu, hu', g0, g0', gl, p4, p5, p5', q5, q5', y1, y2, y3, y4, z4, z5, m1, hl1, ByteArray.size_append]) | ((first | refine DW_exit ?_ | refine DW_skip ?_); simp [hnt, dT, dNd, hfm, hlt, hu, hu', g0, g0', gl, p4, p5, p5', q5, q5', y1, y2, y3, y4, z4, z5, m1, hl1, ByteArray.size_append]) | (intro hc; (try simp [hnt, dT, dNd, hfm, hlt, hu, hu', g0, g0', gl, p4, p5, p5', q5, q5', y1, y2, y3, y4, z4, z5, m1, hl1, ByteArray.size_append] at hc); (try (exfalso; omega))) | ((first | refine callP_mk (ku) ?_ | (refine callP_wk (ku) ?_ ?_; (· (simp; done)))); try simp [hnt, dT, dNd, hfm, hlt, hu, hu', g0, g0', gl, p4, p5, p5', q5, q5', y1, y2, y3, y4, z4, z5, m1, hl1, ByteArray.size_append]) | (refine ⟨?_, ?_⟩; · omega) | omega | apply_assumption -exfalso -symm | (exfalso; omega)))
      refine Again.mk ⟨i + 1, by omega⟩ (Sub.lit (by simp [htk, hpt, dStr])) (by simp; omega)
      skip
    ·have p4' : (u.x.k == 4) = false := by simpa using p4
     simp [p4, p5] at hpt
     (repeat (first | refine DW_seq fun K hK => ?_ | (refine DW_r anRX4207 Tryz.mixed (by kernel_rfl) ?_; simp [anRX4207, hnt, dT, dNd, hfm, hlt, hu, hu', g0, g0', gl, p4, p4', p5, p5', y1, y2, y3, y4, z4, z5, m1, hl1, ByteArray.size_append]; try simp (disch := omega) only [wrap64_in]) | refine DW_block ?_ | (refine DW_if ?_ ?_ ?_; (· (simp [hnt, dT, dNd, hfm, hlt, hu, hu', g0, g0', gl, p4, p4', p5, p5', y1, y2, y3, y4, z4, z5, m1, hl1, ByteArray.size_append]; done)); (try (rotate_left; (· (intro hc; (try simp [hnt, dT, dNd, hfm, hlt, hu, hu', g0, g0', gl, p4, p4', p5, p5', y1, y2, y3, y4, z4, z5, m1, hl1, ByteArray.size_append] at hc); done))))) | (refine DW_ret ?_; simp [Tryz.results207, hnt, dT, dNd, hfm, hlt, hu, hu', g0, g0', gl, p4, p4', p5, p5', y1, y2, y3, y4, z4, z5, m1, hl1, ByteArray.size_append]) | ((first | refine DW_exit ?_ | refine DW_skip ?_); simp [hnt, dT, dNd, hfm, hlt, hu, hu', g0, g0', gl, p4, p4', p5, p5', y1, y2, y3, y4, z4, z5, m1, hl1, ByteArray.size_append]) | (intro hc; (try simp [hnt, dT, dNd, hfm, hlt, hu, hu', g0, g0', gl, p4, p4', p5, p5', y1, y2, y3, y4, z4, z5, m1, hl1, ByteArray.size_append] at hc); (try (exfalso; omega))) | ((first | refine callP_mk (ku) ?_ | (refine callP_wk (ku) ?_ ?_; (· (simp; done)))); try simp [hnt, dT, dNd, hfm, hlt, hu, hu', g0, g0', gl, p4, p4', p5, p5', y1, y2, y3, y4, z4, z5, m1, hl1, ByteArray.size_append]) | (refine ⟨?_, ?_⟩; · omega) | omega | apply_assumption -exfalso -symm | (exfalso; omega)))
     refine Again.mk ⟨i + 1, by omega⟩ (Sub.lit (by simp [htk, hpt, dStr])) (by simp; omega)
     skip
  ·have hkk : i = ks.length := by omega
   subst hkk
   rw [List.take_length]
   obtain ⟨J, hJ⟩ : ∃ J, J = joinB (txtL x.k ks) b := ⟨_, rfl⟩
   have hJs : J.size ≤ 31457280 := by rw [hJ]; exact Nat.le_trans (joinB_size _ _ (by rw [hbz]; exact btw_size _)) hbig
   rw [← hJ] at kj ⊢
   have y5 : J.size + (sgn x.k).size ≤ maxLen := by unfold maxLen; omega
   refine DW_sub (Sub.freezeL [50] _) ?_
   simp [hnt, Tryz.results207, anRX4207]
   exact go0 (aj2 kj kg) aj0 (aj1 y5)
def boundI (t : RT) : Int := if 16 < htT t then 171 else if 2048 < (txtT t).size then 174 else 0
def anRX4134 : Ann := ⟨[], []⟩
theorem bounded57_pure (t : RT) (ht : okT t = true) (hs : (flat t).length ≤ 1310720) : DPure Tryz.prog 134 [dNds (flat t)] (.int .i64 (boundI t)) := by
 refine DPure_introF [] (fn := Tryz.f134) Tryz.func134 rfl Tryz.call134 (by simp [Tryz.ntmps134]) (by simp [mx]) ?_
 intro hwf B hnt
 simp only [Tryz.ntmps134] at hnt
 have hA := an_is anRX4134 Tryz.mixed (aj2 @anRX4134.eq_1 Tryz.results134)
 clear hwf
 simp only [argS]
 have k1 := height109_pure t ht hs
 have k2 := text110_pure _ t rfl ht hs
 unfold boundI
 obtain ⟨T, hT⟩ : ∃ T, T = txtT t := ⟨_, rfl⟩
 rw [← hT] at k2 ⊢
 by_cases c1 : 16 < htT t
 ·have d1 : (16 : Int) < (htT t : Int) := by omega
  exact go0 (aj2 k1 k2) aj0 (aj2 c1 d1)
 ·have d1 : ¬ (16 : Int) < (htT t : Int) := by omega
  by_cases c2 : 2048 < T.size
  ·have d2 : (2048 : Int) < (T.size : Int) := by omega
   exact go0 (aj2 k1 k2) aj0 (aj4 c1 d1 c2 d2)
  ·have d2 : ¬ (2048 : Int) < (T.size : Int) := by omega
   exact go0 (aj2 k1 k2) aj0 (aj4 c1 d1 c2 d2)
def anRX467 : Ann := ⟨[], []⟩
theorem check23_tree (t : RT) (ht : okT t = true) (h : (flat t).length ≤ 2048) : DPure Tryz.prog 67 [dNds (flat t)] (.int .i64 (boundI t)) := by
 refine DPure_introF [] (fn := Tryz.f67) Tryz.func67 rfl Tryz.call67 (by simp [Tryz.ntmps67]) (by simp [mx]) ?_
 intro hwf B hnt
 simp only [Tryz.ntmps67] at hnt
 have hA := an_is anRX467 Tryz.mixed (aj2 @anRX467.eq_1 Tryz.results67)
 clear hwf
 simp only [argS]
 have k1 := whole56_pure (flat t) (by omega)
 rw [tree_whole ht] at k1
 have k2 := bounded57_pure t ht (by omega)
 have d1 : ¬ (2048 : Int) < ((flat t).length : Int) := by omega
 have d2 : ¬ 2048 < (flat t).length := by omega
 exact go0 (aj2 k1 k2) aj0 (aj2 d1 d2)
theorem check23_long (l : List Nd) (h : 2048 < l.length) : DPure Tryz.prog 67 [dNds l] (.int .i64 3) := by
 refine DPure_introF [] (fn := Tryz.f67) Tryz.func67 rfl Tryz.call67 (by simp [Tryz.ntmps67]) (by simp [mx]) ?_
 intro hwf B hnt
 simp only [Tryz.ntmps67] at hnt
 have hA := an_is anRX467 Tryz.mixed (aj2 @anRX467.eq_1 Tryz.results67)
 clear hwf
 simp only [argS]
 have d1 : (2048 : Int) < (l.length : Int) := by omega
 exact go0 aj0 aj0 (aj2 d1 h)
theorem check23_bad (l : List Nd) (h : l.length ≤ 2048) (hw : wholeB l = false) : DPure Tryz.prog 67 [dNds l] (.int .i64 170) := by
 refine DPure_introF [] (fn := Tryz.f67) Tryz.func67 rfl Tryz.call67 (by simp [Tryz.ntmps67]) (by simp [mx]) ?_
 intro hwf B hnt
 simp only [Tryz.ntmps67] at hnt
 have hA := an_is anRX467 Tryz.mixed (aj2 @anRX467.eq_1 Tryz.results67)
 clear hwf
 simp only [argS]
 have k1 := whole56_pure l (by omega)
 rw [hw] at k1
 have d1 : ¬ (2048 : Int) < (l.length : Int) := by omega
 have d2 : ¬ 2048 < l.length := by omega
 exact go0 (aj1 k1) aj0 (aj2 d1 d2)
def anRX4192 : Ann := ⟨[], []⟩
theorem height94_tree (t : RT) (ht : okT t = true) (hs : (flat t).length ≤ 1310720) : DPure Tryz.prog 192 [dNds (flat t)] (.int .i64 (htT t)) := by
 refine DPure_introF [] (fn := Tryz.f192) Tryz.func192 rfl Tryz.call192 (by simp [Tryz.ntmps192]) (by simp [mx]) ?_
 intro hwf B hnt
 simp only [Tryz.ntmps192] at hnt
 have hA := an_is anRX4192 Tryz.mixed (aj2 @anRX4192.eq_1 Tryz.results192)
 clear hwf
 simp only [argS]
 have k1 := whole56_pure (flat t) hs
 rw [tree_whole ht] at k1
 have k2 := height109_pure t ht hs
 exact go0 (aj2 k1 k2) aj0 aj0
theorem height94_bad (l : List Nd) (hs : l.length ≤ 1310720) (hw : wholeB l = false) : DPure Tryz.prog 192 [dNds l] (.int .i64 0) := by
 refine DPure_introF [] (fn := Tryz.f192) Tryz.func192 rfl Tryz.call192 (by simp [Tryz.ntmps192]) (by simp [mx]) ?_
 intro hwf B hnt
 simp only [Tryz.ntmps192] at hnt
 have hA := an_is anRX4192 Tryz.mixed (aj2 @anRX4192.eq_1 Tryz.results192)
 clear hwf
 simp only [argS]
 have k1 := whole56_pure l hs
 rw [hw] at k1
 exact go0 (aj1 k1) aj0 aj0
end Go.Proofs.YtdgocjbakjamaaaGreat
end

section
namespace Go.Proofs.YtdgocjbakjamaaaGreat
open Go Go.Dm
variable [DMode]
attribute [local irreducible] DW callP callS
set_option maxRecDepth 100000
structure At (l : List Nd) (p : Nat) (t : RT) : Prop where
 ok : okT t = true
 le : p ≤ l.length
 eq : ∃ r, l.drop p = flat t ++ r
def kidP (p : Nat) (ks : List RT) (i : Nat) : Nat := p + 1 + (flatL (ks.take i)).length
def kidD (n : Nat) : List DVal := [.int .i64 (n : Int)]
def kidsD (p : Nat) (ks : List RT) : DVal := .sl 1 8 ((List.range ks.length).map fun i => kidD (kidP p ks i))
@[simp] theorem mx_kidD (n : Nat) : mxL (kidD n) = 0 := by simp [kidD, mxL, mx]
@[simp] theorem mx_kids (p : Nat) (ks : List RT) (n : Nat) : mxR ((List.range n).map fun i => kidD (kidP p ks i)) = 0 := mxR0 (fun i => kidD (kidP p ks i)) (fun i => mx_kidD _) _
theorem At.top {t : RT} (h : okT t = true) : At (flat t) 0 t := ⟨h, by omega, [], by simp⟩
theorem At.kid {l : List Nd} {p : Nat} {x : Nd} {ks : List RT} (h : At l p (.mk x ks)) {i : Nat} {u : RT} (hu : ks[i]? = some u) : At l (kidP p ks i) u ∧ endN (l.drop (kidP p ks i)) 1 = some (l.drop (kidP p ks (i + 1))) ∧ kidP p ks (i + 1) ≤ l.length := by
 obtain ⟨hok, hle, r, hr⟩ := h
 obtain ⟨_, _, h3⟩ := okT_mk hok
 obtain ⟨hi, rfl⟩ := List.getElem?_eq_some_iff.1 hu
 have hlen : (l.drop p).length = 1 + (flatL ks).length + r.length := by rw [hr, flat_mk, List.length_append, List.length_cons]; omega
 rw [List.length_drop] at hlen
 have hsp := flatL_split ks i
 have hdr := List.drop_eq_getElem_cons hi
 have hnx := flatL_take (ks := ks) hu
 have hfl : (flatL ks).length = (flatL (ks.take i)).length + ((flat ks[i]).length + (flatL (ks.drop (i + 1))).length) := by rw [hsp, List.length_append, hdr, flatL_cons, List.length_append]
 have hdrop : l.drop (kidP p ks i) = flat ks[i] ++ (flatL (ks.drop (i + 1)) ++ r) := by
  unfold kidP
  rw [Nat.add_assoc, ← List.drop_drop, hr, flat_mk, Nat.add_comm 1, List.cons_append, List.drop_succ_cons, hsp, List.append_assoc, List.drop_append_of_le_length (Nat.le_refl _), List.drop_length, List.nil_append, hdr, flatL_cons, List.append_assoc]
 have hoku : okT ks[i] = true := okL_mem h3 _ (List.getElem_mem hi)
 refine ⟨⟨hoku, by unfold kidP; omega, _, hdrop⟩, ?_, by unfold kidP; omega⟩
 rw [hdrop, endN_flat _ _ 0 hoku, endN_zero]
 congr 1
 have h5 : kidP p ks (i + 1) = kidP p ks i + (flat ks[i]).length := by unfold kidP; omega
 have h6 : l.drop (kidP p ks i + (flat ks[i]).length) = (l.drop (kidP p ks i)).drop (flat ks[i]).length := by rw [List.drop_drop]
 rw [h5, h6, hdrop, List.drop_append_of_le_length (Nat.le_refl _), List.drop_length, List.nil_append]
theorem At.head {l : List Nd} {p : Nat} {t : RT} (h : At l p t) : l[p]? = some t.x ∧ p < l.length ∧ p + (flat t).length ≤ l.length := by
 obtain ⟨hok, hle, r, hr⟩ := h
 have h1 := flat_len t
 have h2 := congrArg List.length hr
 rw [List.length_drop, List.length_append] at h2
 refine ⟨?_, by omega, by omega⟩
 have h3 : (l.drop p)[0]? = some t.x := by rw [hr, List.getElem?_append_left (by omega)]; exact flat_head t
 rw [List.getElem?_drop] at h3
 simpa using h3
def anRY2151 : Ann := ⟨[], []⟩
set_option maxHeartbeats 4000000 in
theorem kids81_pure (l : List Nd) (p : Nat) (x : Nd) (ks : List RT) (h : At l p (.mk x ks)) (hs : l.length ≤ 1310720) : DPure Tryz.prog 151 [dNds l, .int .i64 p] (kidsD p ks) := by
 refine DPure_introF [50] (fn := Tryz.f151) Tryz.func151 rfl Tryz.call151 (by simp [Tryz.ntmps151]) (by simp [mx, kidsD]) ?_
 intro hwf B hnt
 simp only [Tryz.ntmps151] at hnt
 have hA := an_is anRY2151 Tryz.mixed (aj2 @anRY2151.eq_1 Tryz.results151)
 clear hwf
 simp only [argS]
 obtain ⟨hm, hn, hok⟩ := okT_mk h.ok
 obtain ⟨g0, gl, ge⟩ := h.head
 have g0' : l[p]'gl = x := (List.getElem?_eq_some_iff.1 g0).2
 have hkl : ks.length ≤ 1310720 := by have := flatL_len ks; rw [flat_mk, List.length_cons] at ge; omega
 simp only [RT.x] at g0
 unfold kidsD
 (refine go1 aj0 aj0 aj0 ?_; intros; refine mk_i ?_)
 refine DW_adoptS 5 50 3 1 8 (by simp [hnt, Tryz.results151, anRY2151]) (fun n => ?_)
 refine DW_loop (X := {i : Nat // i ≤ ks.length}) (fun i => ⟨[(0, dNds l), (1, .int .i64 p), (5, .osl 50 1), (6, .int .i64 (kidP p ks i.1)), (7, .int .i64 i.1)], [⟨50, 1, .row 3 1 8 ((List.range i.1).map fun i => kidD (kidP p ks i))⟩]⟩) (fun i => ks.length - i.1) ⟨0, by omega⟩ (Sub.lit (by simp [kidP, flatL])) ?_
 rintro ⟨i, hi⟩
 simp only
 by_cases hlt : i < ks.length
 ·obtain ⟨u, hu, hu', _⟩ := at_lt' hlt
  obtain ⟨a1, a2, a3⟩ := h.kid hu
  have e1 := end144_pure l (kidP p ks i) hs a1.le
  unfold endI at e1
  rw [a2] at e1
  simp only [List.length_drop] at e1
  have hq : (l.length : Int) - ((l.length - kidP p ks (i + 1) : Nat) : Int) = (kidP p ks (i + 1) : Int) := by omega
  rw [hq] at e1
  have hr : (List.range (i + 1)).map (fun i => kidD (kidP p ks i)) = (List.range i).map (fun i => kidD (kidP p ks i)) ++ [kidD (kidP p ks i)] := by rw [List.range_succ, List.map_append]; rfl
  have z1 : (i + 1) * 8 ≤ 150000000000000 := by omega
  have z2 : i + 1 ≤ 9223372036854775807 := by omega
  obtain ⟨q, hqq⟩ : ∃ q, q = kidP p ks i := ⟨_, rfl⟩
  obtain ⟨q', hqq'⟩ : ∃ q', q' = kidP p ks (i + 1) := ⟨_, rfl⟩
  rw [← hqq, ← hqq'] at e1
  rw [← hqq] at hr ⊢
  have hDm := mx_kids p ks i
  have hDl : ((List.range i).map fun i => kidD (kidP p ks i)).length = i := by simp
  obtain ⟨D, hD⟩ : ∃ D, D = (List.range i).map fun i => kidD (kidP p ks i) := ⟨_, rfl⟩
  rw [← hD] at hr hDm hDl ⊢
  have hr2 : (List.range (i + 1)).map (fun i => kidD (kidP p ks i)) = D ++ [[.int .i64 (q : Int)]] := hr
  clear hD hr
  (refine go1 (aj1 e1) aj0 (aj9 @dNd.eq_1 g0 g0' gl hn hlt z1 z2 hDl) ?_; intros; refine mk_i ?_)
  refine Again.mk ⟨i + 1, by omega⟩ (Sub.lit (by simp only [← hqq', hr2]; simp [hDm, mxR_append])) (by simp; omega)
  skip
 ·have hkk : i = ks.length := by omega
  subst hkk
  exact go0 aj0 aj0 (aj5 @dNd.eq_1 g0 g0' gl hn)
end Go.Proofs.YtdgocjbakjamaaaGreat
end

section
namespace Go.Proofs.YtdgocjbakjamaaaGreat
open Go Go.Dm
variable [DMode]
attribute [local irreducible] DW callP callS
set_option maxRecDepth 100000
theorem htL_snoc : ∀ (a : List RT) (u : RT), htL (a ++ [u]) = max (htL a) (htT u)
 | [], u => by rw [List.nil_append, htL_cons, htL_nil]; omega
 | t :: a, u => by rw [List.cons_append, htL_cons, htL_snoc a u, htL_cons]; omega
theorem htL_take {ks : List RT} {i : Nat} {u : RT} (h : ks[i]? = some u) : htL (ks.take (i + 1)) = max (htL (ks.take i)) (htT u) := by
 rw [List.take_add_one, h]; exact htL_snoc _ _
mutual
theorem ht_leT : ∀ t : RT, htT t ≤ (flat t).length
 | .mk x ks => by rw [htT_mk, flat_mk, List.length_cons]; have := ht_leL ks; omega
theorem ht_leL : ∀ ts : List RT, htL ts ≤ (flatL ts).length
 | [] => by rw [htL_nil]; omega
 | t :: ts => by rw [htL_cons, flatL_cons, List.length_append]; have := ht_leT t; have := ht_leL ts; omega
end
theorem flatL_take_le (ks : List RT) (i : Nat) : (flatL (ks.take i)).length ≤ (flatL ks).length := by
 have := congrArg List.length (flatL_split ks i)
 rw [List.length_append] at this
 omega
theorem kids_row {p : Nat} {ks : List RT} {i : Nat} (h : i < ks.length) : ((List.range ks.length).map fun i => kidD (kidP p ks i))[i]? = some [.int .i64 (kidP p ks i : Int)] := by
 rw [List.getElem?_map, List.getElem?_range h]; rfl
def anRY3238 : Ann := ⟨[], []⟩
set_option maxHeartbeats 4000000 in
theorem height169_pure : ∀ (n : Nat) (t : RT) (l : List Nd) (p : Nat), (flat t).length = n → At l p t → l.length ≤ 1310720 → DPure Tryz.prog 238 [dNds l, .int .i64 p] (.int .i64 (htT t)) := by
 intro n
 induction n using Nat.strongRecOn with
 | ind n ih =>
 intro t l p hn ht hs
 obtain ⟨x, ks⟩ := t
 have kk := kids81_pure l p x ks ht hs
 obtain ⟨g0, gl, ge⟩ := ht.head
 have hfl : (flat (.mk x ks)).length = (flatL ks).length + 1 := by rw [flat_mk, List.length_cons]
 have hkl := flatL_len ks
 have hk9 : ks.length ≤ 1310720 := by omega
 have hch : ∀ i u, ks[i]? = some u → DPure Tryz.prog 238 [dNds l, .int .i64 (kidP p ks i)] (.int .i64 (htT u)) := fun i u hu => by
  have hm := flatL_mem (List.mem_of_getElem? hu)
  exact ih (flat u).length (by omega) u l _ rfl (ht.kid hu).1 hs
 have hrow : ∀ i, i < ks.length → _ := fun i h => kids_row (p := p) (ks := ks) (i := i) h
 have hht : htL ks ≤ 1310720 := by have := ht_leL ks; omega
 rw [htT_mk]
 unfold kidsD at kk
 obtain ⟨D, hD⟩ : ∃ D, D = (List.range ks.length).map fun i => kidD (kidP p ks i) := ⟨_, rfl⟩
 have hDl : D.length = ks.length := by rw [hD]; simp
 have hDm : mxR D = 0 := by rw [hD]; exact mx_kids p ks _
 rw [← hD] at kk hrow
 clear hD ih ht g0 gl ge hn
 refine DPure_introF [] (fn := Tryz.f238) Tryz.func238 rfl Tryz.call238 (by simp [Tryz.ntmps238]) (by simp [mx]) ?_
 intro hwf B hnt
 simp only [Tryz.ntmps238] at hnt
 have hA := an_is anRY3238 Tryz.mixed (aj2 @anRY3238.eq_1 Tryz.results238)
 clear hwf
 simp only [argS]
 (refine go1 (aj1 kk) aj0 aj0 ?_; intros; refine mk_i ?_)
 refine DW_loop (X := {i : Nat // i ≤ ks.length}) (fun i => ⟨[(0, dNds l), (5, .int .i64 (htL (ks.take i.1))), (6, .sl 1 8 D), (7, .int .i64 i.1)], []⟩) (fun i => ks.length - i.1) ⟨0, by omega⟩ (Sub.lit (by simp [htL_nil, hDm])) ?_
 rintro ⟨i, hi⟩
 simp only
 by_cases hlt : i < ks.length
 ·obtain ⟨u, hu, hu', _⟩ := at_lt' hlt
  have e1 := hch i u hu
  have hr := hrow i hlt
  have hltD : i < D.length := by omega
  have hwi : IntKind.i64.wrap ((i : Int) + 1) = (i : Int) + 1 := wrap64_in (by omega) (by omega)
  have hr' : D[i]'hltD = [.int .i64 (kidP p ks i : Int)] := (List.getElem?_eq_some_iff.1 hr).2
  have htk := htL_take hu
  obtain ⟨a, ha⟩ : ∃ a, a = htL (ks.take i) := ⟨_, rfl⟩
  obtain ⟨c, hcc⟩ : ∃ c, c = htT u := ⟨_, rfl⟩
  rw [← ha, ← hcc] at htk
  rw [← hcc] at e1
  rw [← ha]
  obtain ⟨q, hq⟩ : ∃ q, q = kidP p ks i := ⟨_, rfl⟩
  rw [← hq] at e1 hr hr'
  by_cases hgt : a < c
  ·have hgt' : (a : Int) < (c : Int) := by omega
   have hmx : ((htL (ks.take (i + 1)) : Nat) : Int) = (c : Int) := by omega
   (refine go1 (aj1 e1) aj0 (aj8 hDl hltD hwi hr hr' hgt hgt' hlt) ?_; intros; refine mk_i ?_)
   refine Again.mk ⟨i + 1, by omega⟩ (Sub.lit (by simp only [hmx]; simp [hDm])) (by simp; omega)
   skip
  ·have hgt' : ¬ (a : Int) < (c : Int) := by omega
   have hmx : ((htL (ks.take (i + 1)) : Nat) : Int) = (a : Int) := by omega
   (refine go1 (aj1 e1) aj0 (aj8 hDl hltD hwi hr hr' hgt hgt' hlt) ?_; intros; refine mk_i ?_)
   refine Again.mk ⟨i + 1, by omega⟩ (Sub.lit (by simp only [hmx]; simp [hDm])) (by simp; omega)
   skip
 ·have hkk : i = ks.length := by omega
  subst hkk
  rw [List.take_length]
  have q1 : IntKind.i64.wrap ((htL ks : Int) + 1) = (htL ks : Int) + 1 := wrap64_in (by omega) (by omega)
  exact go0 aj0 aj0 (aj2 hDl q1)
theorem any_take {α : Type} {f : α → Bool} {l : List α} {i : Nat} {u : α} (h : l[i]? = some u) : (l.take (i + 1)).any f = ((l.take i).any f || f u) := by
 rw [List.take_add_one, h, List.any_append]; simp
theorem all_take {α : Type} {f : α → Bool} {l : List α} {i : Nat} {u : α} (h : l[i]? = some u) : (l.take (i + 1)).all f = ((l.take i).all f && f u) := by
 rw [List.take_add_one, h, List.all_append]; simp
def anRY382 : Ann := ⟨[], []⟩
set_option maxHeartbeats 4000000 in
theorem empty39_pure : ∀ (n : Nat) (t : RT) (l : List Nd) (p : Nat), (flat t).length = n → At l p t → l.length ≤ 1310720 → DPure Tryz.prog 82 [dNds l, .int .i64 p] (.bool (empT t)) := by
 intro n
 induction n using Nat.strongRecOn with
 | ind n ih =>
 intro t l p hn ht hs
 obtain ⟨x, ks⟩ := t
 have kk := kids81_pure l p x ks ht hs
 have hm := (okT_mk ht.ok).1
 obtain ⟨g0, gl, ge⟩ := ht.head
 simp only [RT.x] at g0
 have g0' : l[p]'gl = x := (List.getElem?_eq_some_iff.1 g0).2
 have hfl : (flat (.mk x ks)).length = (flatL ks).length + 1 := by rw [flat_mk, List.length_cons]
 have hkl := flatL_len ks
 have hk9 : ks.length ≤ 1310720 := by omega
 have hch : ∀ i u, ks[i]? = some u → DPure Tryz.prog 82 [dNds l, .int .i64 (kidP p ks i)] (.bool (empT u)) := fun i u hu => by
  have hm := flatL_mem (List.mem_of_getElem? hu)
  exact ih (flat u).length (by omega) u l _ rfl (ht.kid hu).1 hs
 have hrow : ∀ i, i < ks.length → _ := fun i h => kids_row (p := p) (ks := ks) (i := i) h
 rw [empT_mk, anyE_any, allE_all]
 unfold kidsD at kk
 obtain ⟨D, hD⟩ : ∃ D, D = (List.range ks.length).map fun i => kidD (kidP p ks i) := ⟨_, rfl⟩
 have hDl : D.length = ks.length := by rw [hD]; simp
 have hDm : mxR D = 0 := by rw [hD]; exact mx_kids p ks _
 rw [← hD] at kk hrow
 clear hD ih ht ge hn
 refine DPure_introF [] (fn := Tryz.f82) Tryz.func82 rfl Tryz.call82 (by simp [Tryz.ntmps82]) (by simp [mx]) ?_
 intro hwf B hnt
 simp only [Tryz.ntmps82] at hnt
 have hA := an_is anRY382 Tryz.mixed (aj2 @anRY382.eq_1 Tryz.results82)
 clear hwf
 simp only [argS]
 (refine go1 (aj1 kk) aj0 (aj4 @dNd.eq_1 g0 g0' gl) ?_; intros; refine mk_i ?_)
 refine DW_loop (X := {i : Nat // i ≤ ks.length}) (fun i => ⟨[(0, dNds l), (5, .int .i64 x.k), (6, .sl 1 8 D), (7, .bool ((ks.take i.1).any empT)), (8, .bool ((ks.take i.1).all empT)), (9, .int .i64 i.1)], []⟩) (fun i => ks.length - i.1) ⟨0, by omega⟩ (Sub.lit (by simp [hDm])) ?_
 rintro ⟨i, hi⟩
 simp only
 by_cases hlt : i < ks.length
 ·obtain ⟨u, hu, hu', _⟩ := at_lt' hlt
  have e1 := hch i u hu
  have hr := hrow i hlt
  have hltD : i < D.length := by omega
  have hwi : IntKind.i64.wrap ((i : Int) + 1) = (i : Int) + 1 := wrap64_in (by omega) (by omega)
  have hr' : D[i]'hltD = [.int .i64 (kidP p ks i : Int)] := (List.getElem?_eq_some_iff.1 hr).2
  have h1 := any_take (f := empT) hu
  have h2 := all_take (f := empT) hu
  obtain ⟨a, ha⟩ : ∃ a, a = (ks.take i).any empT := ⟨_, rfl⟩
  obtain ⟨b, hb⟩ : ∃ b, b = (ks.take i).all empT := ⟨_, rfl⟩
  rw [← ha] at h1
  rw [← hb] at h2
  rw [← ha, ← hb]
  obtain ⟨q, hq⟩ : ∃ q, q = kidP p ks i := ⟨_, rfl⟩
  rw [← hq] at e1 hr hr'
  (refine go1 (aj1 e1) aj0 (aj6 hDl hltD hwi hr hr' hlt) ?_; intros; refine mk_i ?_)
  refine Again.mk ⟨i + 1, by omega⟩ (Sub.lit (by simp only [h1, h2]; simp [hDm])) (by simp; omega)
  skip
 ·have hkk : i = ks.length := by omega
  subst hkk
  rw [List.take_length]
  rcases mayN_kind hm with k | k | k | k | k | k | k | k <;> exact go0 aj0 aj0 (aj2 hDl k)
end Go.Proofs.YtdgocjbakjamaaaGreat
end

section
namespace Go.Proofs.YtdgocjbakjamaaaGreat
open Go Go.Dm
variable [DMode]
attribute [local irreducible] DW callP callS
set_option maxRecDepth 100000
theorem okL_take {ks : List RT} (h : okL ks = true) (i : Nat) : okL (ks.take i) = true := by
 have := okL_app (ks.take i) (ks.drop i)
 rw [List.take_append_drop, h] at this
 simpa using (by simpa using this.symm : okL (ks.take i) = true ∧ okL (ks.drop i) = true).1
def accT (x : Nd) (ks : List RT) (i : Nat) : ByteArray := if i = 0 then x.s else joinB (txtL x.k (ks.take i)) (btw x.k)
theorem accT_zero (x : Nd) (ks : List RT) : accT x ks 0 = x.s := rfl
theorem accT_one {x : Nd} {ks : List RT} {u : RT} (h : ks[0]? = some u) : accT x ks 1 = parT x.k u.x.k (txtT u) := by
 unfold accT
 rw [if_neg (by omega), show ks.take 1 = [u] by rw [List.take_add_one, h]; simp, txtL_cons, txtL_nil]
 rfl
theorem accT_succ {x : Nd} {ks : List RT} {i : Nat} {u : RT} (hi : 0 < i) (h : ks[i]? = some u) : accT x ks (i + 1) = accT x ks i ++ btw x.k ++ parT x.k u.x.k (txtT u) := by
 unfold accT
 rw [if_neg (by omega), if_neg (by omega), txtL_take h]
 obtain ⟨hl, _⟩ := List.getElem?_eq_some_iff.1 h
 have hne : txtL x.k (ks.take i) ≠ [] := fun e => by
  have := congrArg List.length e
  rw [txtL_len, List.length_take] at this
  simp only [List.length_nil] at this
  omega
 cases hx : txtL x.k (ks.take i) with
 | nil => exact absurd hx hne
 | cons y r =>
  show (r ++ [_]).foldl (joinF (btw x.k)) y = _
  rw [List.foldl_append]
  rfl
theorem accT_size {x : Nd} {ks : List RT} (hok : okL ks = true) (hs : x.s.size ≤ 16) (i : Nat) : (accT x ks i).size ≤ 16 + 24 * (flatL ks).length := by
 unfold accT
 split
 ·omega
 ·have h1 := joinB_size (txtL x.k (ks.take i)) (btw x.k) (btw_size _)
  have h2 := (txt_sizeL x.k (ks.take i) (okL_take hok i)).1
  have h3 := flatL_take_le ks i
  omega
theorem empty_s {x : Nd} (h : mayN x = true) (h2 : ¬ (x.k = 2 ∨ x.k = 3)) : x.s = ⟨#[]⟩ := by
 unfold mayN emp at h
 rw [if_neg (fun e => h2 (.inl e)), if_neg (fun e => h2 (.inr e))] at h
 repeat' split at h
 all_goals simp only [Bool.and_eq_true, decide_eq_true_eq, Bool.false_eq_true] at h
 all_goals first | exact h.1 | (exact absurd h (by simp))
theorem str_app0r (x : ByteArray) : x ++ (⟨#[]⟩ : ByteArray) = x := by
 apply bytes_ext
 simp [ByteArray.data_append]
def anRY4162 : Ann := ⟨[], []⟩
set_option maxHeartbeats 8000000 in
theorem textAt_pure : ∀ (n : Nat) (t : RT) (l : List Nd) (p : Nat), (flat t).length = n → At l p t → l.length ≤ 1310720 → DPure Tryz.prog 162 [dNds l, .int .i64 p] (.str (txtT t)) := by
 intro n
 induction n using Nat.strongRecOn with
 | ind n ih =>
 intro t l p hn ht hs
 obtain ⟨x, ks⟩ := t
 have kk := kids81_pure l p x ks ht hs
 obtain ⟨hm, hkn, hok⟩ := okT_mk ht.ok
 obtain ⟨g0, gl, ge⟩ := ht.head
 simp only [RT.x] at g0
 have g0' : l[p]'gl = x := (List.getElem?_eq_some_iff.1 g0).2
 have hfl : (flat (.mk x ks)).length = (flatL ks).length + 1 := by rw [flat_mk, List.length_cons]
 have hkl := flatL_len ks
 have hk9 : ks.length ≤ 1310720 := by omega
 have hch : ∀ i u, ks[i]? = some u → DPure Tryz.prog 162 [dNds l, .int .i64 (kidP p ks i)] (.str (txtT u)) ∧ l[kidP p ks i]? = some u.x ∧ (txtT u).size ≤ 31457280 := fun i u hu => by
  have hm := flatL_mem (List.mem_of_getElem? hu)
  have hu2 := (ht.kid hu).1
  have h3 := (txt_sizeT u hu2.ok).2
  exact ⟨ih (flat u).length (by omega) u l _ rfl hu2 hs, hu2.head.1, by omega⟩
 have hrow : ∀ i, i < ks.length → _ := fun i h => kids_row (p := p) (ks := ks) (i := i) h
 have hacs := accT_size (x := x) hok (mayN_size hm)
 have hxs := mayN_size hm
 have hbig : 16 + 24 * (flatL ks).length ≤ 31457300 := by omega
 rw [txtT_mk]
 unfold kidsD at kk
 obtain ⟨D, hD⟩ : ∃ D, D = (List.range ks.length).map fun i => kidD (kidP p ks i) := ⟨_, rfl⟩
 have hDl : D.length = ks.length := by rw [hD]; simp
 have hDm : mxR D = 0 := by rw [hD]; exact mx_kids p ks _
 rw [← hD] at kk hrow
 have h6 : x.k = 6 ∨ x.k = 7 ∨ x.k = 8 → ks.length = 1 := fun h => by obtain ⟨u, rfl⟩ := one_kid ht.ok h; rfl
 have h8 : ¬ x.k = 1 → ¬ (x.k = 2 ∨ x.k = 3) → ¬ x.k = 5 → x.k = 4 ∨ x.k = 6 ∨ x.k = 7 ∨ x.k = 8 := fun a b c => by have := mayN_kind hm; omega
 have hlf : x.k = 2 ∨ x.k = 3 → ks.length = 0 := fun h => by rw [leaf_nil ht.ok h]; rfl
 have hpos : ¬ x.k = 1 → ¬ (x.k = 2 ∨ x.k = 3) → 1 ≤ ks.length := fun a b => by have := mayN_many hm a b; omega
 have hemp : ¬ (x.k = 2 ∨ x.k = 3) → x.s = ⟨#[]⟩ := empty_s hm
 clear hD ih ht ge hn hok hm
 have z0 : (⟨#[]⟩ : ByteArray).size = 0 := rfl
 have z1 : (⟨#[37]⟩ : ByteArray).size = 1 := rfl
 have z2 : (⟨#[32]⟩ : ByteArray).size = 1 := rfl
 have z3 : (⟨#[32, 124, 32]⟩ : ByteArray).size = 3 := rfl
 have z4 : (⟨#[40]⟩ : ByteArray).size = 1 := rfl
 have z5 : (⟨#[41]⟩ : ByteArray).size = 1 := rfl
 have z6 : (⟨#[42]⟩ : ByteArray).size = 1 := rfl
 have z7 : (⟨#[43]⟩ : ByteArray).size = 1 := rfl
 have z8 : (⟨#[63]⟩ : ByteArray).size = 1 := rfl
 have m1 : 1 ≤ maxLen := by decide
 have m3 : 3 ≤ maxLen := by decide
 have mbig : 100000000 ≤ maxLen := by decide
 refine DPure_introF [] (fn := Tryz.f162) Tryz.func162 rfl Tryz.call162 (by simp [Tryz.ntmps162]) (by simp [mx]) ?_
 intro hwf B hnt
 simp only [Tryz.ntmps162] at hnt
 have hA := an_is anRY4162 Tryz.mixed (aj2 @anRY4162.eq_1 Tryz.results162)
 clear hwf
 simp only [argS]
 by_cases k1 : x.k = 1
 ·rw [if_pos k1]
  exact go0 aj0 aj0 (aj7 @dNd.eq_1 g0 g0' gl z1 m1 k1)
 rw [if_neg k1]
 obtain ⟨R, hR⟩ : ∃ R, R = (if x.k = 2 ∨ x.k = 3 then x.s else joinB (txtL x.k ks) (btw x.k) ++ sgn x.k) := ⟨_, rfl⟩
 rw [← hR]
 have k1' : (x.k == 1) = false := by simpa using k1
 (refine go1 (aj1 kk) aj0 (aj6 @dNd.eq_1 g0 g0' gl k1 k1') ?_; intros; refine mk_i ?_)
 refine DW_loop (X := {i : Nat // i ≤ ks.length}) (fun i => ⟨[(0, dNds l), (5, .int .i64 x.k), (6, .str (accT x ks i.1)), (7, .sl 1 8 D), (8, .int .i64 i.1)], []⟩) (fun i => ks.length - i.1) ⟨0, by omega⟩ (Sub.lit (by simp [accT_zero, hDm])) ?_
 rintro ⟨i, hi⟩
 simp only
 by_cases hlt : i < ks.length
 ·have k2 : ¬ (x.k = 2 ∨ x.k = 3) := fun h => by have := hlf h; omega
  have hx0 := hemp k2
  obtain ⟨u, hu, hu', _⟩ := at_lt' hlt
  obtain ⟨e1, gu, hus⟩ := hch i u hu
  have hr := hrow i hlt
  have hltD : i < D.length := by omega
  have hwi : IntKind.i64.wrap ((i : Int) + 1) = (i : Int) + 1 := wrap64_in (by omega) (by omega)
  have hr' : D[i]'hltD = [.int .i64 (kidP p ks i : Int)] := (List.getElem?_eq_some_iff.1 hr).2
  have hac := hacs i
  obtain ⟨q, hq⟩ : ∃ q, q = kidP p ks i := ⟨_, rfl⟩
  rw [← hq] at e1 hr hr' gu
  have gq : q < l.length := (List.getElem?_eq_some_iff.1 gu).1
  have gu' : l[q]'gq = u.x := (List.getElem?_eq_some_iff.1 gu).2
  have hpt : parT x.k u.x.k (txtT u) = if parB x.k u.x.k then ⟨#[40]⟩ ++ txtT u ++ ⟨#[41]⟩ else txtT u := rfl
  have hnx : accT x ks (i + 1) = (if i = 0 then ⟨#[]⟩ else accT x ks i ++ btw x.k) ++ parT x.k u.x.k (txtT u) := by
   by_cases h0 : i = 0
   ·subst h0; rw [if_pos rfl, str_app0]; exact accT_one hu
   ·rw [if_neg h0]; exact accT_succ (by omega) hu
  have hz : i = 0 → accT x ks i = ⟨#[]⟩ := fun h => by rw [h, accT_zero, hx0]
  obtain ⟨s, hs2⟩ : ∃ s, s = txtT u := ⟨_, rfl⟩
  rw [← hs2] at e1 hus hpt hnx
  obtain ⟨P, hP⟩ : ∃ P, P = parT x.k u.x.k s := ⟨_, rfl⟩
  rw [← hP] at hpt hnx
  obtain ⟨a, ha⟩ : ∃ a, a = accT x ks i := ⟨_, rfl⟩
  rw [← ha] at hac hnx hz ⊢
  have y3 : 1 + s.size ≤ maxLen := by omega
  have y4 : 1 + s.size + 1 ≤ maxLen := by omega
  have y5 : a.size + 3 ≤ maxLen := by omega
  have y6 : a.size + 1 ≤ maxLen := by omega
  have y7 : a.size + P.size ≤ maxLen := by
   have := (parT_size x.k u.x.k s).2; rw [← hP] at this; omega
  have y8 : a.size + 3 + P.size ≤ maxLen := by
   have := (parT_size x.k u.x.k s).2; rw [← hP] at this; omega
  have y9 : a.size + 1 + P.size ≤ maxLen := by omega
  unfold parB at hpt
  clear hs2 ha hP
  unfold btw at hnx
  by_cases h0 : i = 0
  ·have hp0 : ¬ (0 : Int) < (i : Int) := by omega
   rw [if_pos h0, str_app0] at hnx
   have ha0 := hz h0
   subst ha0
   have w1 : ⟨#[]⟩ ++ P = P := str_app0 P
   have y7' : P.size ≤ maxLen := by omega
   by_cases p5 : u.x.k = 5
   ·simp [p5] at hpt
    subst hpt
    simp only [ByteArray.size_append, z4, z5] at y7'
    (repeat (first | refine DW_seq fun K hK => ?_ | (refine DW_r anRY4162 Tryz.mixed (by kernel_rfl) ?_; simp [anRY4162, hnt, dNd, gu, gu', gq, hltD, hDl, hwi, hr, hr', hlt, hp0, p5, z0, z4, z5, m1, y3, y4, y7', w1, ByteArray.size_append]; try simp (disch := omega) only [wrap64_in]) | refine DW_block ?_ | (refine DW_if ?_ ?_ ?_; (· (simp [hnt, dNd, gu, gu', gq, hltD, hDl, hwi, hr, hr', hlt, hp0, p5, z0, z4, z5, m1, y3, y4, y7', w1, ByteArray.size_append]; done)); (try (rotate_left; (· (intro hc; (try simp [hnt, dNd, gu, gu', gq, hltD, hDl, hwi, hr, hr', hlt, hp0, p5, z0, z4, z5, m1, y3, y4, y7', w1, ByteArray.size_append] at hc); done))))) | (refine DW_ret ?_; simp [Tryz.results162, hnt, dNd, gu, gu', gq, hltD, hDl, hwi, hr, hr', hlt, hp0, p5, z0, z4, z5, m1, y3, y4, y7', w1, ByteArray.size_append]) | ((first | refine DW_exit ?_ | refine DW_skip ?_); simp [hnt, dNd, gu, gu', gq, hltD, hDl, hwi, hr, hr', hlt, hp0, p5, z0, z4, z5, m1, y3, y4, y7', w1, ByteArray.size_append]) | (intro hc; (try simp [hnt, dNd, gu, gu', gq, hltD, hDl, hwi, hr, hr', hlt, hp0, p5, z0, z4, z5, m1, y3, y4, y7', w1, ByteArray.size_append] at hc); (try (exfalso; omega))) | ((first | refine callP_mk (e1) ?_ | (refine callP_wk (e1) ?_ ?_; (· (simp; done)))); try simp [hnt, dNd, gu, gu', gq, hltD, hDl, hwi, hr, hr', hlt, hp0, p5, z0, z4, z5, m1, y3, y4, y7', w1, ByteArray.size_append]) | (refine ⟨?_, ?_⟩; · omega) | omega | apply_assumption -exfalso -symm | (exfalso; omega)))
    refine Again.mk ⟨i + 1, by omega⟩ (Sub.lit (by simp [hnx, hDm])) (by simp; omega)
    skip
   ·have p5' : (u.x.k == 5) = false := by simpa using p5
    by_cases p4 : u.x.k = 4
    ·by_cases q5 : x.k = 5
     ·simp [p4, q5] at hpt
      subst hpt
      (repeat (first | refine DW_seq fun K hK => ?_ | (refine DW_r anRY4162 Tryz.mixed (by kernel_rfl) ?_; simp [anRY4162, hnt, dNd, gu, gu', gq, hltD, hDl, hwi, hr, hr', hlt, hp0, p4, p5, p5', q5, z0, z4, z5, m1, y3, y4, y7', w1, ByteArray.size_append]; try simp (disch := omega) only [wrap64_in]) | refine DW_block ?_ | (refine DW_if ?_ ?_ ?_; (· (simp [hnt, dNd, gu, gu', gq, hltD, hDl, hwi, hr, hr', hlt, hp0, p4, p5, p5', q5, z0, z4, z5, m1, y3, y4, y7', w1, ByteArray.size_append]; done)); (try (rotate_left; (· (intro hc; (try simp [hnt, dNd, gu, gu', gq, hltD, hDl, hwi, hr, hr', hlt, hp0, p4, p5, p5', q5, z0, z4, z5, m1, y3, y4, y7', w1, ByteArray.size_append] at hc); done))))) | (refine DW_ret ?_; simp [Tryz.results162, hnt, dNd, gu, gu', gq, hltD, hDl, hwi, hr, hr', hlt, hp0, p4, p5, p5', q5, z0, z4, z5, m1, y3, y4, y7', w1, ByteArray.size_append]) | ((first | refine DW_exit ?_ | refine DW_skip ?_); simp [hnt, dNd, gu, gu', gq, hltD, hDl, hwi, hr, hr', hlt, hp0, p4, p5, p5', q5, z0, z4, z5, m1, y3, y4, y7', w1, ByteArray.size_append]) | (intro hc; (try simp [hnt, dNd, gu, gu', gq, hltD, hDl, hwi, hr, hr', hlt, hp0, p4, p5, p5', q5, z0, z4, z5, m1, y3, y4, y7', w1, ByteArray.size_append] at hc); (try (exfalso; omega))) | ((first | refine callP_mk (e1) ?_ | (refine callP_wk (e1) ?_ ?_; (· (simp; done)))); try simp [hnt, dNd, gu, gu', gq, hltD, hDl, hwi, hr, hr', hlt, hp0, p4, p5, p5', q5, z0, z4, z5, m1, y3, y4, y7', w1, ByteArray.size_append]) | (refine ⟨?_, ?_⟩; · omega) | omega | apply_assumption -exfalso -symm | (exfalso; omega)))
      refine Again.mk ⟨i + 1, by omega⟩ (Sub.lit (by simp [hnx, hDm, q5])) (by simp; omega)
      skip
     ·have q5' : (x.k == 5) = false := by simpa using q5
      simp [p4, q5] at hpt
      subst hpt
      simp only [ByteArray.size_append, z4, z5] at y7'
      (repeat (first | refine DW_seq fun K hK => ?_ | (refine DW_r anRY4162 Tryz.mixed (by kernel_rfl) ?_; simp [anRY4162, hnt, dNd, gu, gu', gq, hltD, hDl, hwi, hr, hr', hlt, hp0, p4, p5, p5', q5, q5', z0, z4, z5, m1, y3, y4, y7', w1, ByteArray.size_append]; try simp (disch := omega) only [wrap64_in]) | refine DW_block ?_ | (refine DW_if ?_ ?_ ?_; (· (simp [hnt, dNd, gu, gu', gq, hltD, hDl, hwi, hr, hr', hlt, hp0, p4, p5, p5', q5, q5', z0, z4, z5, m1, y3, y4, y7', w1, ByteArray.size_append]; done)); (try (rotate_left; (· (intro hc; (try simp [hnt, dNd, gu, gu', gq, hltD, hDl, hwi, hr, hr', hlt, hp0, p4, p5, p5', q5, q5', z0, z4, z5, m1, y3, y4, y7', w1, ByteArray.size_append] at hc); done))))) | (refine DW_ret ?_; simp [Tryz.results162, hnt, dNd, gu, gu', gq, hltD, hDl, hwi, hr, hr', hlt, hp0, p4, p5, p5', q5, q5', z0, z4, z5, m1, y3, y4, y7', w1, ByteArray.size_append]) | ((first | refine DW_exit ?_ | refine DW_skip ?_); simp [hnt, dNd, gu, gu', gq, hltD, hDl, hwi, hr, hr', hlt, hp0, p4, p5, p5', q5, q5', z0, z4, z5, m1, y3, y4, y7', w1, ByteArray.size_append]) | (intro hc; (try simp [hnt, dNd, gu, gu', gq, hltD, hDl, hwi, hr, hr', hlt, hp0, p4, p5, p5', q5, q5', z0, z4, z5, m1, y3, y4, y7', w1, ByteArray.size_append] at hc); (try (exfalso; omega))) | ((first | refine callP_mk (e1) ?_ | (refine callP_wk (e1) ?_ ?_; (· (simp; done)))); try simp [hnt, dNd, gu, gu', gq, hltD, hDl, hwi, hr, hr', hlt, hp0, p4, p5, p5', q5, q5', z0, z4, z5, m1, y3, y4, y7', w1, ByteArray.size_append]) | (refine ⟨?_, ?_⟩; · omega) | omega | apply_assumption -exfalso -symm | (exfalso; omega)))
      refine Again.mk ⟨i + 1, by omega⟩ (Sub.lit (by simp [hnx, hDm])) (by simp; omega)
      skip
    ·have p4' : (u.x.k == 4) = false := by simpa using p4
     simp [p4, p5] at hpt
     subst hpt
     (repeat (first | refine DW_seq fun K hK => ?_ | (refine DW_r anRY4162 Tryz.mixed (by kernel_rfl) ?_; simp [anRY4162, hnt, dNd, gu, gu', gq, hltD, hDl, hwi, hr, hr', hlt, hp0, p4, p4', p5, p5', z0, z4, z5, m1, y3, y4, y7', w1, ByteArray.size_append]; try simp (disch := omega) only [wrap64_in]) | refine DW_block ?_ | (refine DW_if ?_ ?_ ?_; (· (simp [hnt, dNd, gu, gu', gq, hltD, hDl, hwi, hr, hr', hlt, hp0, p4, p4', p5, p5', z0, z4, z5, m1, y3, y4, y7', w1, ByteArray.size_append]; done)); (try (rotate_left; (· (intro hc; (try simp [hnt, dNd, gu, gu', gq, hltD, hDl, hwi, hr, hr', hlt, hp0, p4, p4', p5, p5', z0, z4, z5, m1, y3, y4, y7', w1, ByteArray.size_append] at hc); done))))) | (refine DW_ret ?_; simp [Tryz.results162, hnt, dNd, gu, gu', gq, hltD, hDl, hwi, hr, hr', hlt, hp0, p4, p4', p5, p5', z0, z4, z5, m1, y3, y4, y7', w1, ByteArray.size_append]) | ((first | refine DW_exit ?_ | refine DW_skip ?_); simp [hnt, dNd, gu, gu', gq, hltD, hDl, hwi, hr, hr', hlt, hp0, p4, p4', p5, p5', z0, z4, z5, m1, y3, y4, y7', w1, ByteArray.size_append]) | (intro hc; (try simp [hnt, dNd, gu, gu', gq, hltD, hDl, hwi, hr, hr', hlt, hp0, p4, p4', p5, p5', z0, z4, z5, m1, y3, y4, y7', w1, ByteArray.size_append] at hc); (try (exfalso; omega))) | ((first | refine callP_mk (e1) ?_ | (refine callP_wk (e1) ?_ ?_; (· (simp; done)))); try simp [hnt, dNd, gu, gu', gq, hltD, hDl, hwi, hr, hr', hlt, hp0, p4, p4', p5, p5', z0, z4, z5, m1, y3, y4, y7', w1, ByteArray.size_append]) | (refine ⟨?_, ?_⟩; · omega) | omega | apply_assumption -exfalso -symm | (exfalso; omega)))
     refine Again.mk ⟨i + 1, by omega⟩ (Sub.lit (by simp [hnx, hDm])) (by simp; omega)
     skip
  ·have hp0 : (0 : Int) < (i : Int) := by omega
   rw [if_neg h0] at hnx
   clear hz
   by_cases q5 : x.k = 5
   ·rw [if_pos q5] at hnx
    have q4' : (x.k == 4) = false := by simp [q5]
    by_cases p5 : u.x.k = 5
    ·simp [p5] at hpt
     subst hpt
     simp only [ByteArray.size_append, z4, z5] at y8
     (repeat (first | refine DW_seq fun K hK => ?_ | (refine DW_r anRY4162 Tryz.mixed (by kernel_rfl) ?_; simp [anRY4162, hnt, dNd, gu, gu', gq, hltD, hDl, hwi, hr, hr', hlt, hp0, p5, q5, q4', z0, z3, z4, z5, m1, m3, y3, y4, y5, y8, ByteArray.size_append]; try simp (disch := omega) only [wrap64_in]) | refine DW_block ?_ | (refine DW_if ?_ ?_ ?_; (· (simp [hnt, dNd, gu, gu', gq, hltD, hDl, hwi, hr, hr', hlt, hp0, p5, q5, q4', z0, z3, z4, z5, m1, m3, y3, y4, y5, y8, ByteArray.size_append]; done)); (try (rotate_left; (· (intro hc; (try simp [hnt, dNd, gu, gu', gq, hltD, hDl, hwi, hr, hr', hlt, hp0, p5, q5, q4', z0, z3, z4, z5, m1, m3, y3, y4, y5, y8, ByteArray.size_append] at hc); done))))) | (refine DW_ret ?_; simp [Tryz.results162, hnt, dNd, gu, gu', gq, hltD, hDl, hwi, hr, hr', hlt, hp0, p5, q5, q4', z0, z3, z4, z5, m1, m3, y3, y4, y5, y8, ByteArray.size_append]) | ((first | refine DW_exit ?_ | refine DW_skip ?_); simp [hnt, dNd, gu, gu', gq, hltD, hDl, hwi, hr, hr', hlt, hp0, p5, q5, q4', z0, z3, z4, z5, m1, m3, y3, y4, y5, y8, ByteArray.size_append]) | (intro hc; (try simp [hnt, dNd, gu, gu', gq, hltD, hDl, hwi, hr, hr', hlt, hp0, p5, q5, q4', z0, z3, z4, z5, m1, m3, y3, y4, y5, y8, ByteArray.size_append] at hc); (try (exfalso; omega))) | ((first | refine callP_mk (e1) ?_ | (refine callP_wk (e1) ?_ ?_; (· (simp; done)))); try simp [hnt, dNd, gu, gu', gq, hltD, hDl, hwi, hr, hr', hlt, hp0, p5, q5, q4', z0, z3, z4, z5, m1, m3, y3, y4, y5, y8, ByteArray.size_append]) | (refine ⟨?_, ?_⟩; · omega) | omega | apply_assumption -exfalso -symm | (exfalso; omega)))
     refine Again.mk ⟨i + 1, by omega⟩ (Sub.lit (by simp [hnx, hDm, q5])) (by simp; omega)
     exact go0 (aj1 e1) aj0 aj0
    ·have p5' : (u.x.k == 5) = false := by simpa using p5
     simp [p5, q5] at hpt
     subst hpt
     by_cases p4 : u.x.k = 4
     ·(repeat (first | refine DW_seq fun K hK => ?_ | (refine DW_r anRY4162 Tryz.mixed (by kernel_rfl) ?_; simp [anRY4162, hnt, dNd, gu, gu', gq, hltD, hDl, hwi, hr, hr', hlt, hp0, p5, p5', p4, q5, q4', z0, z3, z4, z5, m1, m3, y3, y4, y5, y8, ByteArray.size_append]; try simp (disch := omega) only [wrap64_in]) | refine DW_block ?_ | (refine DW_if ?_ ?_ ?_; (· (simp [hnt, dNd, gu, gu', gq, hltD, hDl, hwi, hr, hr', hlt, hp0, p5, p5', p4, q5, q4', z0, z3, z4, z5, m1, m3, y3, y4, y5, y8, ByteArray.size_append]; done)); (try (rotate_left; (· (intro hc; (try simp [hnt, dNd, gu, gu', gq, hltD, hDl, hwi, hr, hr', hlt, hp0, p5, p5', p4, q5, q4', z0, z3, z4, z5, m1, m3, y3, y4, y5, y8, ByteArray.size_append] at hc); done))))) | (refine DW_ret ?_; simp [Tryz.results162, hnt, dNd, gu, gu', gq, hltD, hDl, hwi, hr, hr', hlt, hp0, p5, p5', p4, q5, q4', z0, z3, z4, z5, m1, m3, y3, y4, y5, y8, ByteArray.size_append]) | ((first | refine DW_exit ?_ | refine DW_skip ?_); simp [hnt, dNd, gu, gu', gq, hltD, hDl, hwi, hr, hr', hlt, hp0, p5, p5', p4, q5, q4', z0, z3, z4, z5, m1, m3, y3, y4, y5, y8, ByteArray.size_append]) | (intro hc; (try simp [hnt, dNd, gu, gu', gq, hltD, hDl, hwi, hr, hr', hlt, hp0, p5, p5', p4, q5, q4', z0, z3, z4, z5, m1, m3, y3, y4, y5, y8, ByteArray.size_append] at hc); (try (exfalso; omega))) | ((first | refine callP_mk (e1) ?_ | (refine callP_wk (e1) ?_ ?_; (· (simp; done)))); try simp [hnt, dNd, gu, gu', gq, hltD, hDl, hwi, hr, hr', hlt, hp0, p5, p5', p4, q5, q4', z0, z3, z4, z5, m1, m3, y3, y4, y5, y8, ByteArray.size_append]) | (refine ⟨?_, ?_⟩; · omega) | omega | apply_assumption -exfalso -symm | (exfalso; omega)))
      refine Again.mk ⟨i + 1, by omega⟩ (Sub.lit (by simp [hnx, hDm, q5])) (by simp; omega)
      exact go0 (aj1 e1) aj0 aj0
     ·have p4' : (u.x.k == 4) = false := by simpa using p4
      (repeat (first | refine DW_seq fun K hK => ?_ | (refine DW_r anRY4162 Tryz.mixed (by kernel_rfl) ?_; simp [anRY4162, hnt, dNd, gu, gu', gq, hltD, hDl, hwi, hr, hr', hlt, hp0, p5, p5', p4, p4', q5, q4', z0, z3, z4, z5, m1, m3, y3, y4, y5, y8, ByteArray.size_append]; try simp (disch := omega) only [wrap64_in]) | refine DW_block ?_ | (refine DW_if ?_ ?_ ?_; (· (simp [hnt, dNd, gu, gu', gq, hltD, hDl, hwi, hr, hr', hlt, hp0, p5, p5', p4, p4', q5, q4', z0, z3, z4, z5, m1, m3, y3, y4, y5, y8, ByteArray.size_append]; done)); (try (rotate_left; (· (intro hc; (try simp [hnt, dNd, gu, gu', gq, hltD, hDl, hwi, hr, hr', hlt, hp0, p5, p5', p4, p4', q5, q4', z0, z3, z4, z5, m1, m3, y3, y4, y5, y8, ByteArray.size_append] at hc); done))))) | (refine DW_ret ?_; simp [Tryz.results162, hnt, dNd, gu, gu', gq, hltD, hDl, hwi, hr, hr', hlt, hp0, p5, p5', p4, p4', q5, q4', z0, z3, z4, z5, m1, m3, y3, y4, y5, y8, ByteArray.size_append]) | ((first | refine DW_exit ?_ | refine DW_skip ?_); simp [hnt, dNd, gu, gu', gq, hltD, hDl, hwi, hr, hr', hlt, hp0, p5, p5', p4, p4', q5, q4', z0, z3, z4, z5, m1, m3, y3, y4, y5, y8, ByteArray.size_append]) | (intro hc; (try simp [hnt, dNd, gu, gu', gq, hltD, hDl, hwi, hr, hr', hlt, hp0, p5, p5', p4, p4', q5, q4', z0, z3, z4, z5, m1, m3, y3, y4, y5, y8, ByteArray.size_append] at hc); (try (exfalso; omega))) | ((first | refine callP_mk (e1) ?_ | (refine callP_wk (e1) ?_ ?_; (· (simp; done)))); try simp [hnt, dNd, gu, gu', gq, hltD, hDl, hwi, hr, hr', hlt, hp0, p5, p5', p4, p4', q5, q4', z0, z3, z4, z5, m1, m3, y3, y4, y5, y8, ByteArray.size_append]) | (refine ⟨?_, ?_⟩; · omega) | omega | apply_assumption -exfalso -symm | (exfalso; omega)))
      refine Again.mk ⟨i + 1, by omega⟩ (Sub.lit (by simp [hnx, hDm, q5])) (by simp; omega)
      exact go0 (aj1 e1) aj0 aj0
   ·have q5' : (x.k == 5) = false := by simpa using q5
    have q4 : x.k = 4 := by
     rcases (show x.k = 4 ∨ x.k = 6 ∨ x.k = 7 ∨ x.k = 8 from h8 k1 k2 q5) with h | h
     ·exact h
     ·have := h6 h; omega
    rw [if_neg q5, if_pos q4] at hnx
    by_cases p5 : u.x.k = 5
    ·simp [p5] at hpt
     subst hpt
     simp only [ByteArray.size_append, z4, z5] at y9
     (repeat (first | refine DW_seq fun K hK => ?_ | (refine DW_r anRY4162 Tryz.mixed (by kernel_rfl) ?_; simp [anRY4162, hnt, dNd, gu, gu', gq, hltD, hDl, hwi, hr, hr', hlt, hp0, p5, q5, q5', q4, z0, z2, z4, z5, m1, y3, y4, y6, y9, ByteArray.size_append]; try simp (disch := omega) only [wrap64_in]) | refine DW_block ?_ | (refine DW_if ?_ ?_ ?_; (· (simp [hnt, dNd, gu, gu', gq, hltD, hDl, hwi, hr, hr', hlt, hp0, p5, q5, q5', q4, z0, z2, z4, z5, m1, y3, y4, y6, y9, ByteArray.size_append]; done)); (try (rotate_left; (· (intro hc; (try simp [hnt, dNd, gu, gu', gq, hltD, hDl, hwi, hr, hr', hlt, hp0, p5, q5, q5', q4, z0, z2, z4, z5, m1, y3, y4, y6, y9, ByteArray.size_append] at hc); done))))) | (refine DW_ret ?_; simp [Tryz.results162, hnt, dNd, gu, gu', gq, hltD, hDl, hwi, hr, hr', hlt, hp0, p5, q5, q5', q4, z0, z2, z4, z5, m1, y3, y4, y6, y9, ByteArray.size_append]) | ((first | refine DW_exit ?_ | refine DW_skip ?_); simp [hnt, dNd, gu, gu', gq, hltD, hDl, hwi, hr, hr', hlt, hp0, p5, q5, q5', q4, z0, z2, z4, z5, m1, y3, y4, y6, y9, ByteArray.size_append]) | (intro hc; (try simp [hnt, dNd, gu, gu', gq, hltD, hDl, hwi, hr, hr', hlt, hp0, p5, q5, q5', q4, z0, z2, z4, z5, m1, y3, y4, y6, y9, ByteArray.size_append] at hc); (try (exfalso; omega))) | ((first | refine callP_mk (e1) ?_ | (refine callP_wk (e1) ?_ ?_; (· (simp; done)))); try simp [hnt, dNd, gu, gu', gq, hltD, hDl, hwi, hr, hr', hlt, hp0, p5, q5, q5', q4, z0, z2, z4, z5, m1, y3, y4, y6, y9, ByteArray.size_append]) | (refine ⟨?_, ?_⟩; · omega) | omega | apply_assumption -exfalso -symm | (exfalso; omega)))
     refine Again.mk ⟨i + 1, by omega⟩ (Sub.lit (by simp [hnx, hDm, q4])) (by simp; omega)
     exact go0 (aj1 e1) aj0 aj0
    ·have p5' : (u.x.k == 5) = false := by simpa using p5
     by_cases p4 : u.x.k = 4
     ·simp [p4, q5] at hpt
      subst hpt
      simp only [ByteArray.size_append, z4, z5] at y9
      (repeat (first | refine DW_seq fun K hK => ?_ | (refine DW_r anRY4162 Tryz.mixed (by kernel_rfl) ?_; simp [anRY4162, hnt, dNd, gu, gu', gq, hltD, hDl, hwi, hr, hr', hlt, hp0, p4, p5, p5', q5, q5', q4, z0, z2, z4, z5, m1, y3, y4, y6, y9, ByteArray.size_append]; try simp (disch := omega) only [wrap64_in]) | refine DW_block ?_ | (refine DW_if ?_ ?_ ?_; (· (simp [hnt, dNd, gu, gu', gq, hltD, hDl, hwi, hr, hr', hlt, hp0, p4, p5, p5', q5, q5', q4, z0, z2, z4, z5, m1, y3, y4, y6, y9, ByteArray.size_append]; done)); (try (rotate_left; (· (intro hc; (try simp [hnt, dNd, gu, gu', gq, hltD, hDl, hwi, hr, hr', hlt, hp0, p4, p5, p5', q5, q5', q4, z0, z2, z4, z5, m1, y3, y4, y6, y9, ByteArray.size_append] at hc); done))))) | (refine DW_ret ?_; simp [Tryz.results162, hnt, dNd, gu, gu', gq, hltD, hDl, hwi, hr, hr', hlt, hp0, p4, p5, p5', q5, q5', q4, z0, z2, z4, z5, m1, y3, y4, y6, y9, ByteArray.size_append]) | ((first | refine DW_exit ?_ | refine DW_skip ?_); simp [hnt, dNd, gu, gu', gq, hltD, hDl, hwi, hr, hr', hlt, hp0, p4, p5, p5', q5, q5', q4, z0, z2, z4, z5, m1, y3, y4, y6, y9, ByteArray.size_append]) | (intro hc; (try simp [hnt, dNd, gu, gu', gq, hltD, hDl, hwi, hr, hr', hlt, hp0, p4, p5, p5', q5, q5', q4, z0, z2, z4, z5, m1, y3, y4, y6, y9, ByteArray.size_append] at hc); (try (exfalso; omega))) | ((first | refine callP_mk (e1) ?_ | (refine callP_wk (e1) ?_ ?_; (· (simp; done)))); try simp [hnt, dNd, gu, gu', gq, hltD, hDl, hwi, hr, hr', hlt, hp0, p4, p5, p5', q5, q5', q4, z0, z2, z4, z5, m1, y3, y4, y6, y9, ByteArray.size_append]) | (refine ⟨?_, ?_⟩; · omega) | omega | apply_assumption -exfalso -symm | (exfalso; omega)))
      refine Again.mk ⟨i + 1, by omega⟩ (Sub.lit (by simp [hnx, hDm, q4])) (by simp; omega)
      exact go0 (aj1 e1) aj0 aj0
     ·have p4' : (u.x.k == 4) = false := by simpa using p4
      simp [p4, p5] at hpt
      subst hpt
      (repeat (first | refine DW_seq fun K hK => ?_ | (refine DW_r anRY4162 Tryz.mixed (by kernel_rfl) ?_; simp [anRY4162, hnt, dNd, gu, gu', gq, hltD, hDl, hwi, hr, hr', hlt, hp0, p4, p4', p5, p5', q5, q5', q4, z0, z2, z4, z5, m1, y3, y4, y6, y9, ByteArray.size_append]; try simp (disch := omega) only [wrap64_in]) | refine DW_block ?_ | (refine DW_if ?_ ?_ ?_; (· (simp [hnt, dNd, gu, gu', gq, hltD, hDl, hwi, hr, hr', hlt, hp0, p4, p4', p5, p5', q5, q5', q4, z0, z2, z4, z5, m1, y3, y4, y6, y9, ByteArray.size_append]; done)); (try (rotate_left; (· (intro hc; (try simp [hnt, dNd, gu, gu', gq, hltD, hDl, hwi, hr, hr', hlt, hp0, p4, p4', p5, p5', q5, q5', q4, z0, z2, z4, z5, m1, y3, y4, y6, y9, ByteArray.size_append] at hc); done))))) | (refine DW_ret ?_; simp [Tryz.results162, hnt, dNd, gu, gu', gq, hltD, hDl, hwi, hr, hr', hlt, hp0, p4, p4', p5, p5', q5, q5', q4, z0, z2, z4, z5, m1, y3, y4, y6, y9, ByteArray.size_append]) | ((first | refine DW_exit ?_ | refine DW_skip ?_); simp [hnt, dNd, gu, gu', gq, hltD, hDl, hwi, hr, hr', hlt, hp0, p4, p4', p5, p5', q5, q5', q4, z0, z2, z4, z5, m1, y3, y4, y6, y9, ByteArray.size_append]) | (intro hc; (try simp [hnt, dNd, gu, gu', gq, hltD, hDl, hwi, hr, hr', hlt, hp0, p4, p4', p5, p5', q5, q5', q4, z0, z2, z4, z5, m1, y3, y4, y6, y9, ByteArray.size_append] at hc); (try (exfalso; omega))) | ((first | refine callP_mk (e1) ?_ | (refine callP_wk (e1) ?_ ?_; (· (simp; done)))); try simp [hnt, dNd, gu, gu', gq, hltD, hDl, hwi, hr, hr', hlt, hp0, p4, p4', p5, p5', q5, q5', q4, z0, z2, z4, z5, m1, y3, y4, y6, y9, ByteArray.size_append]) | (refine ⟨?_, ?_⟩; · omega) | omega | apply_assumption -exfalso -symm | (exfalso; omega)))
      refine Again.mk ⟨i + 1, by omega⟩ (Sub.lit (by simp [hnx, hDm, q4])) (by simp; omega)
      exact go0 (aj1 e1) aj0 aj0
 ·have hkk : i = ks.length := by omega
  subst hkk
  have hac := hacs ks.length
  have hfin : (if x.k = 2 ∨ x.k = 3 then x.s else joinB (txtL x.k ks) (btw x.k) ++ sgn x.k) = accT x ks ks.length ++ sgn x.k := by
   by_cases k2 : x.k = 2 ∨ x.k = 3
   ·rw [if_pos k2, hlf k2, accT_zero]
    have : sgn x.k = ⟨#[]⟩ := by unfold sgn; rw [if_neg (by omega), if_neg (by omega), if_neg (by omega)]
    rw [this, str_app0r]
   ·rw [if_neg k2]
    unfold accT
    rw [if_neg (by have := hpos k1 k2; omega), List.take_length]
  rw [hfin] at hR
  clear hfin
  obtain ⟨a, ha⟩ : ∃ a, a = accT x ks ks.length := ⟨_, rfl⟩
  rw [← ha] at hac hR ⊢
  have y6 : a.size + 1 ≤ maxLen := by omega
  have y0 : a.size ≤ maxLen := by omega
  unfold sgn at hR
  by_cases j6 : x.k = 6
  ·rw [if_pos j6] at hR
   subst hR
   exact go0 aj0 aj0 (aj7 hDl j6 z6 y6 y0 m1 @ByteArray.size_append)
  ·have j6' : (x.k == 6) = false := by simpa using j6
   by_cases j7 : x.k = 7
   ·rw [if_neg j6, if_pos j7] at hR
    subst hR
    exact go0 aj0 aj0 (aj9 hDl j6 j6' j7 z7 y6 y0 m1 @ByteArray.size_append)
   ·have j7' : (x.k == 7) = false := by simpa using j7
    by_cases j8 : x.k = 8
    ·rw [if_neg j6, if_neg j7, if_pos j8] at hR
     subst hR
     exact go0 aj0 aj0 (aj11 hDl j6 j6' j7 j7' j8 z8 y6 y0 m1 @ByteArray.size_append)
    ·have j8' : (x.k == 8) = false := by simpa using j8
     rw [if_neg j6, if_neg j7, if_neg j8, str_app0r] at hR
     subst hR
     exact go0 aj0 aj0 (aj10 hDl j6 j6' j7 j7' j8 j8' y6 y0 m1)
def anRY4230 : Ann := ⟨[], []⟩
theorem bounds230_pure (t : RT) (ht : okT t = true) (hs : (flat t).length ≤ 1310720) : DPure Tryz.prog 230 [dNds (flat t)] (.int .i64 (boundI t)) := by
 refine DPure_introF [] (fn := Tryz.f230) Tryz.func230 rfl Tryz.call230 (by simp [Tryz.ntmps230]) (by simp [mx]) ?_
 intro hwf B hnt
 simp only [Tryz.ntmps230] at hnt
 have hA := an_is anRY4230 Tryz.mixed (aj2 @anRY4230.eq_1 Tryz.results230)
 clear hwf
 simp only [argS]
 have k1 := height169_pure _ t (flat t) 0 rfl (At.top ht) hs
 have k2 := textAt_pure _ t (flat t) 0 rfl (At.top ht) hs
 unfold boundI
 obtain ⟨T, hT⟩ : ∃ T, T = txtT t := ⟨_, rfl⟩
 rw [← hT] at k2 ⊢
 by_cases c1 : 16 < htT t
 ·have d1 : (16 : Int) < (htT t : Int) := by omega
  exact go0 (aj2 k1 k2) aj0 (aj2 c1 d1)
 ·have d1 : ¬ (16 : Int) < (htT t : Int) := by omega
  by_cases c2 : 2048 < T.size
  ·have d2 : (2048 : Int) < (T.size : Int) := by omega
   exact go0 (aj2 k1 k2) aj0 (aj4 c1 d1 c2 d2)
  ·have d2 : ¬ (2048 : Int) < (T.size : Int) := by omega
   exact go0 (aj2 k1 k2) aj0 (aj4 c1 d1 c2 d2)
def anRY4145 : Ann := ⟨[], []⟩
theorem rcheck145_tree (t : RT) (ht : okT t = true) (h : (flat t).length ≤ 2048) : DPure Tryz.prog 145 [dNds (flat t)] (.int .i64 (boundI t)) := by
 refine DPure_introF [] (fn := Tryz.f145) Tryz.func145 rfl Tryz.call145 (by simp [Tryz.ntmps145]) (by simp [mx]) ?_
 intro hwf B hnt
 simp only [Tryz.ntmps145] at hnt
 have hA := an_is anRY4145 Tryz.mixed (aj2 @anRY4145.eq_1 Tryz.results145)
 clear hwf
 simp only [argS]
 have k1 := isTree135_pure (flat t) (by omega)
 rw [tree_whole ht] at k1
 have k2 := bounds230_pure t ht (by omega)
 have d1 : ¬ (2048 : Int) < ((flat t).length : Int) := by omega
 have d2 : ¬ 2048 < (flat t).length := by omega
 exact go0 (aj2 k1 k2) aj0 (aj2 d1 d2)
theorem rcheck145_long (l : List Nd) (h : 2048 < l.length) : DPure Tryz.prog 145 [dNds l] (.int .i64 3) := by
 refine DPure_introF [] (fn := Tryz.f145) Tryz.func145 rfl Tryz.call145 (by simp [Tryz.ntmps145]) (by simp [mx]) ?_
 intro hwf B hnt
 simp only [Tryz.ntmps145] at hnt
 have hA := an_is anRY4145 Tryz.mixed (aj2 @anRY4145.eq_1 Tryz.results145)
 clear hwf
 simp only [argS]
 have d1 : (2048 : Int) < (l.length : Int) := by omega
 exact go0 aj0 aj0 (aj2 d1 h)
theorem rcheck145_bad (l : List Nd) (h : l.length ≤ 2048) (hw : wholeB l = false) : DPure Tryz.prog 145 [dNds l] (.int .i64 170) := by
 refine DPure_introF [] (fn := Tryz.f145) Tryz.func145 rfl Tryz.call145 (by simp [Tryz.ntmps145]) (by simp [mx]) ?_
 intro hwf B hnt
 simp only [Tryz.ntmps145] at hnt
 have hA := an_is anRY4145 Tryz.mixed (aj2 @anRY4145.eq_1 Tryz.results145)
 clear hwf
 simp only [argS]
 have k1 := isTree135_pure l (by omega)
 rw [hw] at k1
 have d1 : ¬ (2048 : Int) < (l.length : Int) := by omega
 have d2 : ¬ 2048 < l.length := by omega
 exact go0 (aj1 k1) aj0 (aj2 d1 d2)
def anRY4161 : Ann := ⟨[], []⟩
theorem rheight161_tree (t : RT) (ht : okT t = true) (hs : (flat t).length ≤ 1310720) : DPure Tryz.prog 161 [dNds (flat t)] (.int .i64 (htT t)) := by
 refine DPure_introF [] (fn := Tryz.f161) Tryz.func161 rfl Tryz.call161 (by simp [Tryz.ntmps161]) (by simp [mx]) ?_
 intro hwf B hnt
 simp only [Tryz.ntmps161] at hnt
 have hA := an_is anRY4161 Tryz.mixed (aj2 @anRY4161.eq_1 Tryz.results161)
 clear hwf
 simp only [argS]
 have k1 := isTree135_pure (flat t) hs
 rw [tree_whole ht] at k1
 have k2 := height169_pure _ t (flat t) 0 rfl (At.top ht) hs
 exact go0 (aj2 k1 k2) aj0 aj0
def natD (n : Nat) : List DVal := [.int .i64 (n : Int)]
@[simp] theorem mx_natD (n : Nat) : mxL (natD n) = 0 := by simp [natD, mxL, mx]
abbrev dNats (l : List Nat) : DVal := .sl 1 8 (l.map natD)
@[simp] theorem mx_nats (l : List Nat) : mxR (l.map natD) = 0 := mxR0 _ mx_natD l
theorem plN_le (l : List Nd) (n : Nat) : (plN l n).length ≤ n := by unfold plN; exact Nat.le_trans (List.length_filter_le _ _) (by simp)
def anRY480 : Ann := ⟨[], []⟩
set_option maxHeartbeats 1000000 in
theorem places80_pure (l : List Nd) : DPure Tryz.prog 80 [dNds l] (dNats (plN l l.length)) := by
 refine DPure_introF [50] (fn := Tryz.f80) Tryz.func80 rfl Tryz.call80 (by simp [Tryz.ntmps80]) (by simp [mx]) ?_
 intro hwf B hnt
 simp only [Tryz.ntmps80] at hnt
 have hA := an_is anRY480 Tryz.mixed (aj2 @anRY480.eq_1 Tryz.results80)
 have hs : l.length * 32 ≤ 150000000000000 := by have := hwf.1; simp only [wfD, List.length_map] at this; exact this.1
 clear hwf
 simp only [argS]
 (refine go1 aj0 aj0 aj0 ?_; intros; refine mk_i ?_)
 refine DW_adoptS 3 50 3 1 8 (by simp [hnt, Tryz.results80, anRY480]) (fun n => ?_)
 refine DW_loop (X := {i : Nat // i ≤ l.length}) (fun i => ⟨[(0, dNds l), (3, .osl 50 1), (4, .int .i64 i.1)], [⟨50, 1, .row 3 1 8 ((plN l i.1).map natD)⟩]⟩) (fun i => l.length - i.1) ⟨0, by omega⟩ (Sub.lit (by simp [plN_zero])) ?_
 rintro ⟨i, hi⟩
 simp only
 by_cases hlt : i < l.length
 ·obtain ⟨x, hx, hx', _⟩ := at_lt' hlt
  have hsc := plN_succ hx
  have hle := plN_le l i
  obtain ⟨T, hT⟩ : ∃ T, T = plN l i := ⟨_, rfl⟩
  rw [← hT] at hsc hle ⊢
  have z1 : (T.length + 1) * 8 ≤ 150000000000000 := by omega
  have z2 : T.length + 1 ≤ 9223372036854775807 := by omega
  by_cases ho : isOcc x = true
  ·rw [if_pos ho] at hsc
   have hd : (T.map natD) ++ [[.int .i64 (i : Int)]] = (plN l (i + 1)).map natD := by rw [hsc, List.map_append]; rfl
   rcases isOcc_iff.1 ho with k | k
   ·(refine go1 aj0 aj0 (aj7 @dNd.eq_1 hlt hx hx' k z1 z2) ?_; intros; refine mk_i ?_)
    refine Again.mk ⟨i + 1, by omega⟩ (Sub.lit (by simp [hd])) (by simp; omega)
    skip
   ·(refine go1 aj0 aj0 (aj7 @dNd.eq_1 hlt hx hx' k z1 z2) ?_; intros; refine mk_i ?_)
    refine Again.mk ⟨i + 1, by omega⟩ (Sub.lit (by simp [hd])) (by simp; omega)
    skip
  ·rw [if_neg ho, List.append_nil] at hsc
   have k2 : ¬ x.k = 2 := fun e => ho (isOcc_iff.2 (.inl e))
   have k3 : ¬ x.k = 3 := fun e => ho (isOcc_iff.2 (.inr e))
   have k2' : (x.k == 2) = false := by simpa using k2
   have k3' : (x.k == 3) = false := by simpa using k3
   (refine go1 aj0 aj0 (aj8 @dNd.eq_1 hlt hx hx' k2 k2' k3 k3') ?_; intros; refine mk_i ?_)
   refine Again.mk ⟨i + 1, by omega⟩ (Sub.lit (by simp [hsc])) (by simp; omega)
   skip
 ·have hkk : i = l.length := by omega
  subst hkk
  exact go0 aj0 aj0 aj0
def anRY4146 : Ann := ⟨[], []⟩
theorem rocc146_pure (l : List Nd) : DPure Tryz.prog 146 [dNds l] (.int .i64 (occN l)) := by
 refine DPure_introF [] (fn := Tryz.f146) Tryz.func146 rfl Tryz.call146 (by simp [Tryz.ntmps146]) (by simp [mx]) ?_
 intro hwf B hnt
 simp only [Tryz.ntmps146] at hnt
 have hA := an_is anRY4146 Tryz.mixed (aj2 @anRY4146.eq_1 Tryz.results146)
 clear hwf
 simp only [argS]
 have k1 := places80_pure l
 have h1 : (plN l l.length).length = occN l := by rw [plN_len (Nat.le_refl _), occN_lvs, rkN_all]
 exact go0 (aj1 k1) aj0 (aj1 h1)
end Go.Proofs.YtdgocjbakjamaaaGreat
end

section
namespace Go.Proofs.YtdgocjbakjamaaaGreat
open Go Go.Dm
variable [DMode]
theorem ordS : OrdC sCmp := by
 refine ⟨fun _ _ => sCmp_zero, fun x y => ?_, fun x y z h1 h2 => ?_⟩
 ·rw [sCmp_neg]
  unfold sCmp
  cases h1 : sLess x y
  ·cases h2 : sLess y x <;> simp
  ·rw [sLess_asym h1]; simp
 ·rw [sCmp_neg] at *; exact sLess_trans h1 h2
end Go.Proofs.YtdgocjbakjamaaaGreat
end

section
namespace Go.Proofs.YtdgocjbakjamaaaGreat
open Go Go.Dm
variable [DMode]
attribute [local irreducible] DW callP callS
set_option maxRecDepth 100000
def anWR2206 : Ann := ⟨[], [⟨5, [6], [], []⟩, ⟨7, [22], [], []⟩]⟩
theorem height184_pure (k : Int) (s : ByteArray) : DPure Tryz.prog 206 [.sl 3 32 [dNode k s 0]] (.int .i64 1) := by
 refine DPure_introF [] (fn := Tryz.f206) Tryz.func206 rfl Tryz.call206 (by simp [Tryz.ntmps206]) (by simp [mx]) ?_
 intro hwf B hnt
 simp only [Tryz.ntmps206] at hnt
 have hA := an_is anWR2206 Tryz.mixed (aj2 @anWR2206.eq_1 Tryz.results206)
 clear hwf
 simp only [argS]
 (refine go1 aj0 aj0 (aj1 @dNode.eq_1) ?_; intros; refine mk_i ?_)
 refine DW_loop (X := Bool) (fun x => ⟨[(0, .sl 3 32 [dNode k s 0]), (3, .int .i64 (if x then 1 else 0)), (4, if x then .sl 1 8 [] else .nilsl), (7, .sl 3 32 [dNode k s 0]), (8, .int .i64 1), (9, .int .i64 (if x then 1 else 0))], []⟩) (fun x => if x then 0 else 1) false (Sub.lit (by simp [dNode])) ?_
 rintro (_ | _)
 ·(refine go1 aj0 aj0 (aj1 @dNode.eq_1) ?_; intros; refine mk_i ?_)
  refine DW_loop (X := Bool) (fun x => ⟨[(0, .sl 3 32 [dNode k s 0]), (3, .int .i64 1), (4, if x then .sl 1 8 [] else .sl 1 8 [[.int .i64 0]]), (7, .sl 3 32 [dNode k s 0]), (8, .int .i64 1), (9, .int .i64 0)], []⟩) (fun x => if x then 0 else 1) false (Sub.lit (by simp [dNode])) ?_
  rintro (_ | _)
  ·(refine go1 aj0 aj0 (aj1 @dNode.eq_1) ?_; intros; refine mk_i ?_)
   simp [hnt, Tryz.results206, anWR2206, dNode]
   (refine go1 aj0 aj0 (aj1 @dNode.eq_1) ?_; intros; refine mk_i ?_)
   refine Again.mk true (Sub.lit (by simp [dNode])) (by simp)
   skip
  ·(refine go1 aj0 aj0 (aj1 @dNode.eq_1) ?_; intros; refine mk_i ?_)
   refine Again.mk true (Sub.lit (by simp [dNode])) (by simp)
   skip
 ·exact go0 aj0 aj0 (aj1 @dNode.eq_1)
def anWR2207 : Ann := ⟨[], [⟨1, [3], [], []⟩]⟩
theorem text185_pure (k : Int) (hk : k = 2 ∨ k = 3) (s : ByteArray) : DPure Tryz.prog 207 [.sl 3 32 [dNode k s 0]] (.str s) := by
 refine DPure_introF [] (fn := Tryz.f207) Tryz.func207 rfl Tryz.call207 (by simp [Tryz.ntmps207]) (by simp [mx]) ?_
 intro hwf B hnt
 simp only [Tryz.ntmps207] at hnt
 have hA := an_is anWR2207 Tryz.mixed (aj2 @anWR2207.eq_1 Tryz.results207)
 clear hwf
 simp only [argS]
 rcases hk with rfl | rfl
 ·exact go0 aj0 aj0 (aj1 @dNode.eq_1)
 ·exact go0 aj0 aj0 (aj1 @dNode.eq_1)
def anWR2134 : Ann := ⟨[], []⟩
theorem bounded152_pure (k : Int) (hk : k = 2 ∨ k = 3) (s : ByteArray) (hs : s.size ≤ 16) : DPure Tryz.prog 134 [.sl 3 32 [dNode k s 0]] (.int .i64 0) := by
 refine DPure_introF [] (fn := Tryz.f134) Tryz.func134 rfl Tryz.call134 (by simp [Tryz.ntmps134]) (by simp [mx]) ?_
 intro hwf B hnt
 simp only [Tryz.ntmps134] at hnt
 have hA := an_is anWR2134 Tryz.mixed (aj2 @anWR2134.eq_1 Tryz.results134)
 clear hwf
 simp only [argS]
 have e1 := height184_pure k s
 have e2 := text185_pure k hk s
 have g1 : ¬ (2048 : Int) < s.size := by omega
 exact go0 (aj2 e1 e2) aj0 (aj1 g1)
theorem txt_size {k : Int} {s : ByteArray} (h : txtOK k s = true) : s.size ≤ 16 := by
 unfold txtOK at h
 split at h <;> (simp only [nameOK, Bool.and_eq_true, decide_eq_true_eq] at h; exact h.1.1.2)
def anWR267 : Ann := ⟨[], []⟩
theorem check112_pure (k : Int) (hk : k = 2 ∨ k = 3) (s : ByteArray) : DPure Tryz.prog 67 [.sl 3 32 [dNode k s 0]] (.int .i64 (if txtOK k s then 0 else 170)) := by
 refine DPure_introF [] (fn := Tryz.f67) Tryz.func67 rfl Tryz.call67 (by simp [Tryz.ntmps67]) (by simp [mx]) ?_
 intro hwf B hnt
 simp only [Tryz.ntmps67] at hnt
 have hA := an_is anWR267 Tryz.mixed (aj2 @anWR267.eq_1 Tryz.results67)
 clear hwf
 simp only [argS]
 have e1 := whole151_pure k hk s
 cases hT : txtOK k s
 ·rw [hT] at e1
  exact go0 (aj1 e1) aj0 aj0
 ·rw [hT] at e1
  have e2 := bounded152_pure k hk s (txt_size hT)
  exact go0 (aj2 e1 e2) aj0 aj0
end Go.Proofs.YtdgocjbakjamaaaGreat
end

section
namespace Go.Proofs.YtdgocjbakjamaaaGreat
open Go Go.Dm
variable [DMode]
attribute [local irreducible] DW callP callS
set_option maxRecDepth 100000
def anWR3276 : Ann := ⟨[], []⟩
theorem place114_pure (l : List ByteArray) (s : ByteArray) : DPure Tryz.prog 276 [dStrs l, .str s] (.int .i64 (placeS l s)) := by
 refine DPure_introF [] (fn := Tryz.f276) Tryz.func276 rfl Tryz.call276 (by simp [Tryz.ntmps276]) (by simp [mx]) ?_
 intro hwf B hnt
 simp only [Tryz.ntmps276] at hnt
 have hA := an_is anWR3276 Tryz.mixed (aj2 @anWR3276.eq_1 Tryz.results276)
 have hlen := len_strs hwf.1
 clear hwf
 simp only [argS]
 obtain ⟨R, hR⟩ : ∃ R, R = placeS l s := ⟨_, rfl⟩
 rw [← hR]
 (refine go1 aj0 aj0 aj0 ?_; intros; refine mk_i ?_)
 refine DW_loop (X := {k : Nat // k ≤ l.length ∧ ∀ i x, i < k → l[i]? = some x → (s == x) = false}) (fun x => ⟨[(0, dStrs l), (1, .str s), (5, .int .i64 x.1)], []⟩) (fun x => l.length - x.1) ⟨0, by simp⟩ (Sub.lit (by simp)) ?_
 rintro ⟨k, hk, hno⟩
 by_cases hlt : k < l.length
 ·obtain ⟨x, hx, hx', hxm⟩ := at_lt' hlt
  cases hb : s == x
  ·have hb' : (x == s) = false := by rw [Bool.eq_false_iff] at hb ⊢; simp at hb ⊢; exact fun h => hb h.symm
   (refine go1 aj0 aj0 (aj5 @dStr.eq_1 hlt hx' hx hb') ?_; intros; refine mk_i ?_)
   exact Again.mk ⟨k + 1, by omega, hno_next hx hb hno⟩ (Sub.lit (by simp [])) (by simp; omega)
   skip
  ·have hb' : (x == s) = true := by simp at hb ⊢; exact hb.symm
   have hRk : R = k := by rw [hR]; exact placeS_some hlt (by rw [hx']; exact (by simpa using hb : s = x).symm) hno
   subst hRk
   exact go0 aj0 aj0 (aj5 @dStr.eq_1 hlt hx' hx hb')
 ·have hkk : k = l.length := by omega
  subst hkk
  have hRk : R = -1 := by rw [hR]; exact placeS_none hno
  subst hRk
  exact go0 aj0 aj0 aj0
end Go.Proofs.YtdgocjbakjamaaaGreat
end

section
namespace Go.Proofs.YtdgocjbakjamaaaGreat
open Go Go.Dm
variable [DMode]
attribute [local irreducible] DW callP callS
set_option maxRecDepth 100000
def anBN3100 : Ann := ⟨[], []⟩
theorem in100_pure (l : List ByteArray) (s : ByteArray) : DPure Tryz.prog 100 [dStrs l, .str s] (.bool (decide (s ∈ l))) := by
 refine DPure_introF [] (fn := Tryz.f100) Tryz.func100 rfl Tryz.call100 (by simp [Tryz.ntmps100]) (by simp [mx]) ?_
 intro hwf B hnt
 simp only [Tryz.ntmps100] at hnt
 have hA := an_is anBN3100 Tryz.mixed (aj2 @anBN3100.eq_1 Tryz.results100)
 have hlen := len_strs hwf.1
 clear hwf
 simp only [argS]
 obtain ⟨R, hR⟩ : ∃ R, R = decide (s ∈ l) := ⟨_, rfl⟩
 rw [← hR]
 (refine go1 aj0 aj0 aj0 ?_; intros; refine mk_i ?_)
 refine DW_loop (X := {k : Nat // k ≤ l.length ∧ R = decide (s ∈ l.drop k)}) (fun x => ⟨[(0, dStrs l), (1, .str s), (5, .int .i64 x.1)], []⟩) (fun x => l.length - x.1) ⟨0, by simp [hR]⟩ (Sub.lit (by simp)) ?_
 clear hR
 rintro ⟨k, hk, hR⟩
 by_cases hlt : k < l.length
 ·obtain ⟨x, hx, hx', hxm⟩ := at_lt' hlt
  rw [List.drop_eq_getElem_cons hlt, hx'] at hR
  cases hb : x == s
  ·have hne : ¬ s = x := fun e => by subst e; simp at hb
   have hR2 : R = decide (s ∈ l.drop (k + 1)) := by rw [hR]; simp [hne]
   (refine go1 aj0 aj0 (aj5 @dStr.eq_1 hlt hx' hx hb) ?_; intros; refine mk_i ?_)
   exact Again.mk ⟨k + 1, by omega, hR2⟩ (Sub.lit (by simp [])) (by simp; omega)
   skip
  ·have he : s = x := by simp at hb; exact hb.symm
   have hR2 : R = true := by rw [hR, he]; simp
   subst hR2
   exact go0 aj0 aj0 (aj5 @dStr.eq_1 hlt hx' hx hb)
 ·have hkk : k = l.length := by omega
  subst hkk
  rw [List.drop_length] at hR
  have hR2 : R = false := by rw [hR]; simp
  subst hR2
  exact go0 aj0 aj0 aj0
theorem inO_spec (l : List ByteArray) (s : ByteArray) : DSpec Tryz.prog (.func 100) [.osl 0 0, .str s] [⟨0, 0, .row 9 1 16 (l.map dStr)⟩] (.bool (decide (s ∈ l))) [⟨0, 0, .row 9 1 16 (l.map dStr)⟩] :=
 DSpec_lend rfl (in100_pure l s)
def anBN339 : Ann := ⟨[17], []⟩
set_option maxHeartbeats 1000000 in
theorem rheads39_pure (g : List Rul) : DPure Tryz.prog 39 [dRuls g] (dStrs (headsL g)) := by
 refine DPure_introF [3] (fn := Tryz.f39) Tryz.func39 rfl Tryz.call39 (by simp [Tryz.ntmps39]) (by simp [mx]) ?_
 intro hwf B hnt
 simp only [Tryz.ntmps39] at hnt
 have hA := an_is anBN339 Tryz.mixed (aj2 @anBN339.eq_1 Tryz.results39)
 have hs : g.length * 40 ≤ 150000000000000 := by have := hwf.1; simp only [wfD, List.length_map] at this; exact this.1
 clear hwf
 simp only [argS]
 (refine go1 aj0 aj0 aj0 ?_; intros; refine mk_i ?_)
 refine DW_adoptS 3 3 9 1 16 (by simp [hnt, Tryz.results39, anBN339]) (fun n => ?_)
 refine DW_loop (X := {i : Nat // i ≤ g.length}) (fun i => ⟨[(0, dRuls g), (3, .osl 3 1), (4, .int .i64 i.1)], [⟨3, 1, .row 9 1 16 ((headsL (g.take i.1)).map dStr)⟩]⟩) (fun i => g.length - i.1) ⟨0, by omega⟩ (Sub.lit (by simp [headsL])) ?_
 rintro ⟨i, hi⟩
 simp only
 by_cases hlt : i < g.length
 ·obtain ⟨r, hr, hr', hrm⟩ := at_lt' hlt
  have htk := headsL_take hr
  have hl := headsL_len (g.take i)
  rw [List.length_take] at hl
  obtain ⟨T, hT⟩ : ∃ T, T = headsL (g.take i) := ⟨_, rfl⟩
  rw [← hT] at htk hl ⊢
  have e1 := inO_spec T r.h
  have z1 : (T.length + 1) * 16 ≤ 150000000000000 := by omega
  have z2 : T.length + 1 ≤ 9223372036854775807 := by omega
  unfold hStep at htk
  by_cases hm : r.h ∈ T
  ·rw [if_pos hm] at htk
   rw [decide_eq_true hm] at e1
   (refine go1 aj0 (aj1 (spc [(3,0)] [] e1)) (aj4 @dRul.eq_1 hlt hr hr') ?_; intros; refine mk_i ?_)
   refine Again.mk ⟨i + 1, by omega⟩ (Sub.lit (by simp [htk])) (by simp; omega)
   skip
  ·rw [if_neg hm] at htk
   rw [decide_eq_false hm] at e1
   (refine go1 aj0 (aj1 (spc [(3,0)] [] e1)) (aj6 @dRul.eq_1 hlt hr hr' z1 z2) ?_; intros; refine mk_i ?_)
   refine Again.mk ⟨i + 1, by omega⟩ (Sub.lit (by simp [htk, dStr])) (by simp; omega)
   skip
 ·have hkk : i = g.length := by omega
  subst hkk
  rw [List.take_length]
  exact go0 aj0 aj0 aj0
def anBN3158 : Ann := ⟨[], []⟩
set_option maxHeartbeats 4000000 in
theorem insertS_pure (l : List ByteArray) (p : ByteArray) (hsz : (l.length + 1) * 16 ≤ 150000000000000) : DPure Tryz.prog 158 [dStrs l, .str p] (dStrs (insC sCmp l p)) := by
 refine DPure_introF [50] (fn := Tryz.f158) Tryz.func158 rfl Tryz.call158 (by simp [Tryz.ntmps158]) (by simp [mx]) ?_
 intro hwf B hnt
 simp only [Tryz.ntmps158] at hnt
 have hA := an_is anBN3158 Tryz.mixed (aj2 @anBN3158.eq_1 Tryz.results158)
 clear hwf
 simp only [argS]
 obtain ⟨r, hr⟩ : ∃ r, r = insC sCmp l p := ⟨_, rfl⟩
 rw [← hr]
 (refine go1 aj0 aj0 aj0 ?_; intros; refine mk_i ?_)
 refine DW_adoptS 5 50 9 1 16 (by simp [hnt, Tryz.results158, anBN3158]) (fun n => ?_)
 refine DW_loop (X := {x : Nat × Bool × List ByteArray // x.1 ≤ l.length ∧ x.2.2.length ≤ x.1 + (if x.2.1 then 1 else 0) ∧ x.2.2 ++ (if x.2.1 then l.drop x.1 else insC sCmp (l.drop x.1) p) = r}) (fun x => ⟨[(0, dStrs l), (1, .str p), (5, .osl 50 1), (6, .bool x.1.2.1), (7, .int .i64 x.1.1)], [⟨50, 1, .row 9 1 16 (x.1.2.2.map dStr)⟩]⟩) (fun x => l.length - x.1.1) ⟨(0, false, []), by simp [hr]⟩ (Sub.lit (by simp)) ?_
 rintro ⟨⟨k, b, R⟩, hk, hR, hcc⟩
 simp only at hk hR hcc ⊢
 clear hr
 by_cases hlt : k < l.length
 ·obtain ⟨q, hq, hq', hqm⟩ := at_lt' hlt
  rw [List.drop_eq_getElem_cons hlt, hq'] at hcc
  cases b
  ·simp only [Bool.false_eq_true, if_false, insC, Nat.add_zero] at hR hcc
   have hz1 : (R.length + 1) * 16 ≤ 150000000000000 := Nat.le_trans (Nat.mul_le_mul_right 16 (by omega)) hsz
   have hz2 : R.length ≤ 9223372036854775806 := by omega
   have hz3 : (R.length + 1 + 1) * 16 ≤ 150000000000000 := Nat.le_trans (Nat.mul_le_mul_right 16 (by omega)) hsz
   have hz4 : R.length + 1 ≤ 9223372036854775806 := by omega
   cases hc : sLess q p
   ·have hc2 : Op.bytesLess q.data.toList p.data.toList = false := hc
    rw [if_neg (show ¬ sCmp q p < 0 by rw [sCmp_neg, hc]; simp)] at hcc
    by_cases he : q = p
    ·subst he
     rw [if_neg (show ¬ sCmp q q < 0 by rw [sCmp_neg, sLess_irr]; simp)] at hcc
     (refine go1 aj0 aj0 (aj8 @dStr.eq_1 hlt hq' hc2 hz1 hz2 hz3 hz4) ?_; intros; refine mk_i ?_)
     refine Again.mk ⟨(k + 1, true, R ++ [q]), show k + 1 ≤ l.length ∧ (R ++ [q]).length ≤ k + 1 + _ ∧ _ from ⟨by omega, by simp; omega, by simpa using hcc⟩⟩ (Sub.lit (by simp [dStr])) (by simp; omega)
     skip
    ·have he2 : (q == p) = false := by simpa using he
     have hlp : sLess p q = true := by
      cases h2 : sLess p q
      ·exact absurd (sLess_tri hc h2) he
      ·rfl
     rw [if_pos (sCmp_neg.2 hlp)] at hcc
     (refine go1 aj0 aj0 (aj9 @dStr.eq_1 hlt hq' hc2 he2 hz1 hz2 hz3 hz4) ?_; intros; refine mk_i ?_)
     refine Again.mk ⟨(k + 1, true, R ++ [p, q]), show k + 1 ≤ l.length ∧ (R ++ [p, q]).length ≤ k + 1 + _ ∧ _ from ⟨by omega, by simp; omega, by simpa using hcc⟩⟩ (Sub.lit (by simp [dStr])) (by simp; omega)
     skip
   ·have hc2 : Op.bytesLess q.data.toList p.data.toList = true := hc
    rw [if_pos (sCmp_neg.2 hc)] at hcc
    (refine go1 aj0 aj0 (aj8 @dStr.eq_1 hlt hq' hc2 hz1 hz2 hz3 hz4) ?_; intros; refine mk_i ?_)
    refine Again.mk ⟨(k + 1, false, R ++ [q]), show k + 1 ≤ l.length ∧ (R ++ [q]).length ≤ k + 1 + _ ∧ _ from ⟨by omega, by simp; omega, by simpa using hcc⟩⟩ (Sub.lit (by simp [dStr])) (by simp; omega)
    skip
  ·simp only [if_true] at hR hcc
   have hz1 : (R.length + 1) * 16 ≤ 150000000000000 := Nat.le_trans (Nat.mul_le_mul_right 16 (by omega)) hsz
   have hz2 : R.length ≤ 9223372036854775806 := by omega
   (refine go1 aj0 aj0 (aj5 @dStr.eq_1 hlt hq' hz1 hz2) ?_; intros; refine mk_i ?_)
   refine Again.mk ⟨(k + 1, true, R ++ [q]), show k + 1 ≤ l.length ∧ (R ++ [q]).length ≤ k + 1 + _ ∧ _ from ⟨by omega, by simp; omega, by simpa using hcc⟩⟩ (Sub.lit (by simp [dStr])) (by simp; omega)
   skip
 ·have hk' : k = l.length := by omega
  subst hk'
  rw [List.drop_length] at hcc
  cases b
  ·simp only [Bool.false_eq_true, if_false, insC, Nat.add_zero] at hR hcc
   subst hcc
   have hz1 : (R.length + 1) * 16 ≤ 150000000000000 := Nat.le_trans (Nat.mul_le_mul_right 16 (by omega)) hsz
   have hz2 : R.length ≤ 9223372036854775806 := by omega
   exact go0 aj0 aj0 (aj3 @dStr.eq_1 hz1 hz2)
  ·simp only [if_true, List.append_nil] at hR hcc
   subst hcc
   exact go0 aj0 aj0 (aj1 @dStr.eq_1)
def insF (es : List ByteArray) : List ByteArray := es.foldl (insC sCmp) []
theorem insF_uniq (es : List ByteArray) : insF es = uniqS es := by
 obtain ⟨h1, h2⟩ := fold_strict ordS es [] List.Pairwise.nil
 refine uniq_of (h1.imp fun {a b} h => sCmp_neg.1 h) fun x => ?_
 unfold insF
 rw [h2]
 simp
theorem insF_snoc (es : List ByteArray) (s : ByteArray) : insF (es ++ [s]) = insC sCmp (insF es) s := by unfold insF; rw [List.foldl_append]; rfl
theorem namesK_take_len (k : Int) (g : List Rul) (i : Nat) : (namesK k (g.take i)).length ≤ (namesK k g).length := by
 have h : namesK k g = namesK k (g.take i) ++ namesK k (g.drop i) := by
  unfold namesK
  rw [← List.flatMap_append, List.take_append_drop]
 rw [h, List.length_append]
 omega
def anBN3102 : Ann := ⟨[], []⟩
set_option maxHeartbeats 2000000 in
theorem used102_pure (g : List Rul) (k : Int) (hn : ((namesK k g).length + 1) * 16 ≤ 150000000000000) : DPure Tryz.prog 102 [dRuls g, .int .i64 k] (dStrs (uniqS (namesK k g))) := by
 rw [← insF_uniq]
 refine DPure_introF [] (fn := Tryz.f102) Tryz.func102 rfl Tryz.call102 (by simp [Tryz.ntmps102]) (by simp [mx]) ?_
 intro hwf B hnt
 simp only [Tryz.ntmps102] at hnt
 have hA := an_is anBN3102 Tryz.mixed (aj2 @anBN3102.eq_1 Tryz.results102)
 have hwl := len_ruls hwf.1
 have hwb : ∀ r ∈ g, r.b.length < 9223372036854775807 := fun r hr => by
  have h1 := hwf.1
  obtain ⟨i, hi, rfl⟩ := List.getElem_of_mem hr
  have h2 : wfR (g.map dRul) := by simp only [wfD] at h1; exact h1.2.2
  have h3 := wfR_at h2 (List.getElem?_eq_getElem hi)
  simp only [dRul, wfL] at h3
  exact len_nds h3.2.1
 clear hwf
 simp only [argS]
 (refine go1 aj0 aj0 aj0 ?_; intros; refine mk_i ?_)
 refine DW_nilS 5 1 16 (by simp [hnt, Tryz.results102, anBN3102]) ?_
 refine DW_loop (X := {i : Nat // i ≤ g.length}) (fun i => ⟨[(0, dRuls g), (1, .int .i64 k), (5, dStrs (insF (namesK k (g.take i.1)))), (6, .int .i64 i.1)], []⟩) (fun i => g.length - i.1) ⟨0, by omega⟩ (Sub.lit (by simp [namesK, insF])) ?_
 rintro ⟨i, hi⟩
 simp only
 by_cases hlt : i < g.length
 ·obtain ⟨r, hr, hr', hrm⟩ := at_lt' hlt
  have htk := namesK_take (k := k) hr
  have hrl := hwb r hrm
  have hnl := namesK_take_len k g (i + 1)
  rw [htk, List.length_append] at hnl
  obtain ⟨N, hN⟩ : ∃ N, N = namesK k (g.take i) := ⟨_, rfl⟩
  rw [← hN] at htk hnl ⊢
  (refine go1 aj0 aj0 (aj4 @dRul.eq_1 hlt hr hr') ?_; intros; refine mk_i ?_)
  refine DW_loop (X := {j : Nat // j ≤ r.b.length}) (fun j => ⟨[(0, dRuls g), (1, .int .i64 k), (5, dStrs (insF (N ++ namesN k (r.b.take j.1)))), (6, .int .i64 i), (7, .int .i64 j.1)], []⟩) (fun j => r.b.length - j.1) ⟨0, by omega⟩ (Sub.lit (by simp [namesN])) ?_
  rintro ⟨j, hj⟩
  simp only
  by_cases hlt2 : j < r.b.length
  ·obtain ⟨x, hx, hx', hxm⟩ := at_lt' hlt2
   have htj := namesN_take (k := k) hx
   have hjl : (namesN k (r.b.take j)).length ≤ (namesN k r.b).length := by
    unfold namesN
    rw [List.length_map, List.length_map]
    exact ((List.take_sublist j r.b).filter _).length_le
   obtain ⟨E, hE⟩ : ∃ E, E = N ++ namesN k (r.b.take j) := ⟨_, rfl⟩
   have hE2 : N ++ namesN k (r.b.take (j + 1)) = E ++ (if x.k = k then [x.s] else []) := by rw [htj, hE, List.append_assoc]
   have hEl : (insF E).length ≤ (namesK k g).length := by
    rw [insF_uniq]
    have := uniqS_len E
    rw [hE, List.length_append] at this
    rw [← hE] at this
    omega
   rw [← hE]
   by_cases hk : x.k = k
   ·rw [if_pos hk] at hE2
    have hst := insF_snoc E x.s
    rw [← hE2] at hst
    have e1 := insertS_pure (insF E) x.s (Nat.le_trans (Nat.mul_le_mul_right 16 (by omega)) hn)
    rw [← hst] at e1
    obtain ⟨W, hW⟩ : ∃ W, W = insF E := ⟨_, rfl⟩
    obtain ⟨W2, hW2⟩ : ∃ W2, W2 = insF (N ++ namesN k (r.b.take (j + 1))) := ⟨_, rfl⟩
    rw [← hW, ← hW2] at e1
    rw [← hW]
    (refine go1 (aj1 e1) aj0 (aj9 @dRul.eq_1 @dNd.eq_1 hlt hr hr' hlt2 hx hx' hk) ?_; intros; refine mk_i ?_)
    refine Again.mk ⟨j + 1, by omega⟩ (Sub.lit (by simp only [← hW2]; simp)) (by simp; omega)
    skip
   ·have hk' : (x.k == k) = false := by simpa using hk
    rw [if_neg hk, List.append_nil] at hE2
    (refine go1 aj0 aj0 (aj10 @dRul.eq_1 @dNd.eq_1 hlt hr hr' hlt2 hx hx' hk hk') ?_; intros; refine mk_i ?_)
    refine Again.mk ⟨j + 1, by omega⟩ (Sub.lit (by simp only [hE2]; simp)) (by simp; omega)
    skip
  ·have hkk : j = r.b.length := by omega
   subst hkk
   rw [List.take_length]
   (refine go1 aj0 aj0 (aj4 @dRul.eq_1 hlt hr hr') ?_; intros; refine mk_i ?_)
   refine Again.mk ⟨i + 1, by omega⟩ (Sub.lit (by simp only [htk]; simp)) (by simp; omega)
   skip
 ·have hkk : i = g.length := by omega
  subst hkk
  rw [List.take_length]
  exact go0 aj0 aj0 aj0
def anBN341 : Ann := ⟨[], []⟩
theorem rlabels41_pure (g : List Rul) (hn : ((namesK 3 g).length + 1) * 16 ≤ 150000000000000) : DPure Tryz.prog 41 [dRuls g] (dStrs (labelsL' g)) := by
 refine DPure_introF [] (fn := Tryz.f41) Tryz.func41 rfl Tryz.call41 (by simp [Tryz.ntmps41]) (by simp [mx]) ?_
 intro hwf B hnt
 simp only [Tryz.ntmps41] at hnt
 have hA := an_is anBN341 Tryz.mixed (aj2 @anBN341.eq_1 Tryz.results41)
 clear hwf
 simp only [argS]
 have e1 := used102_pure g 3 hn
 unfold labelsL'
 exact go0 (aj1 e1) aj0 aj0
def missTo (g : List Rul) (j : Nat) : Nat := (((uniqS (namesK 2 g)).take j).filter fun s => !decide (s ∈ headsL g)).length
theorem missTo_all (g : List Rul) : missTo g (uniqS (namesK 2 g)).length = (missL g).length := by unfold missTo missL; rw [List.take_length]
theorem missTo_le (g : List Rul) (j : Nat) : missTo g j ≤ j := by
 unfold missTo
 exact Nat.le_trans (List.length_filter_le _ _) (List.length_take_le _ _)
theorem missTo_succ {g : List Rul} {j : Nat} {s : ByteArray} (h : (uniqS (namesK 2 g))[j]? = some s) : missTo g (j + 1) = missTo g j + (if s ∈ headsL g then 0 else 1) := by
 unfold missTo
 rw [List.take_add_one, h, List.filter_append, List.length_append]
 by_cases hs : s ∈ headsL g <;> simp [hs]
def anBN3108 : Ann := ⟨[], []⟩
set_option maxHeartbeats 1000000 in
theorem rmissing108_pure (g : List Rul) (hn : ((namesK 2 g).length + 1) * 16 ≤ 150000000000000) : DPure Tryz.prog 108 [dRuls g] (.int .i64 (missL g).length) := by
 refine DPure_introF [] (fn := Tryz.f108) Tryz.func108 rfl Tryz.call108 (by simp [Tryz.ntmps108]) (by simp [mx]) ?_
 intro hwf B hnt
 simp only [Tryz.ntmps108] at hnt
 have hA := an_is anBN3108 Tryz.mixed (aj2 @anBN3108.eq_1 Tryz.results108)
 clear hwf
 simp only [argS]
 have e1 := rheads39_pure g
 have e2 := used102_pure g 2 hn
 have hall := missTo_all g
 have hul := uniqS_len (namesK 2 g)
 have hsucc := fun j s => missTo_succ (g := g) (j := j) (s := s)
 have hle := missTo_le g
 obtain ⟨U, hU⟩ : ∃ U, U = uniqS (namesK 2 g) := ⟨_, rfl⟩
 obtain ⟨Hh, hH⟩ : ∃ Hh, Hh = headsL g := ⟨_, rfl⟩
 rw [← hU] at e2 hall hul hsucc
 rw [← hH] at e1 hsucc
 rw [← hall]
 (refine go1 (aj2 e1 e2) aj0 aj0 ?_; intros; refine mk_i ?_)
 refine DW_loop (X := {j : Nat // j ≤ U.length}) (fun j => ⟨[(3, dStrs Hh), (4, dStrs U), (5, .int .i64 (missTo g j.1)), (6, .int .i64 j.1)], []⟩) (fun j => U.length - j.1) ⟨0, by omega⟩ (Sub.lit (by simp [missTo])) ?_
 rintro ⟨j, hj⟩
 simp only
 by_cases hlt : j < U.length
 ·obtain ⟨s, hs, hs', _⟩ := at_lt' hlt
  have h1 := hsucc j s hs
  have h2 := hle j
  have e3 := in100_pure Hh s
  have w1 : IntKind.i64.wrap ((missTo g j : Int) + 1) = (missTo g j : Int) + 1 := wrap64_in (by omega) (by omega)
  have w2 : IntKind.i64.wrap ((j : Int) + 1) = (j : Int) + 1 := wrap64_in (by omega) (by omega)
  by_cases hm : s ∈ Hh
  ·rw [if_pos hm, Nat.add_zero] at h1
   rw [decide_eq_true hm] at e3
   (refine go1 (aj1 e3) aj0 (aj5 @dStr.eq_1 hlt hs hs' w2) ?_; intros; refine mk_i ?_)
   refine Again.mk ⟨j + 1, by omega⟩ (Sub.lit (by simp [h1])) (by simp; omega)
   skip
  ·rw [if_neg hm] at h1
   rw [decide_eq_false hm] at e3
   (refine go1 (aj1 e3) aj0 (aj6 @dStr.eq_1 hlt hs hs' w1 w2) ?_; intros; refine mk_i ?_)
   refine Again.mk ⟨j + 1, by omega⟩ (Sub.lit (by simp [h1])) (by simp; omega)
   skip
 ·have hkk : j = U.length := by omega
  subst hkk
  exact go0 aj0 aj0 aj0
end Go.Proofs.YtdgocjbakjamaaaGreat
end

