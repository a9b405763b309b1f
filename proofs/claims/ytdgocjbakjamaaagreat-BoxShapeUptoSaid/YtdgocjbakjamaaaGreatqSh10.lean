/- Parts of a proof, laid together: RB9, RB10, BY5, EnU, PB, PU. -/
import Derived.SizedLaws
import Derived.ProofKit
import Derived.OpenShut
import Derived.Carry
import Derived.Test.YtdgocjbakjamaaaGreatRows
import Derived.Test.YtdgocjbakjamaaaGreatqSh4
import Derived.Test.YtdgocjbakjamaaaGreatqSh5
import Derived.Test.YtdgocjbakjamaaaGreatqSh8
import Derived.Test.YtdgocjbakjamaaaGreatqSh9
section
set_option linter.unusedSectionVars false
/- boxes by definition: copies, sameness -/



set_option linter.unusedSimpArgs false
set_option linter.unusedVariables false
namespace Go.Proofs.YtdgocjbakjamaaaGreat
open Go Go.Dm
variable [DMode]
attribute [local irreducible] DW callP callS
set_option maxRecDepth 100000

def anRB977 : Ann := ⟨[], []⟩
theorem rcopy77_pure (l : List Nd) (hs : l.length ≤ 1310720) : DPure Tryz.prog 77 [dNds l] (dNds l) := by
 refine DPure_introF [50] (fn := Tryz.f77) Tryz.func77 rfl Tryz.call77 (by simp [Tryz.ntmps77]) (by simp [mx]) ?_
 intro hwf B hnt
 simp only [Tryz.ntmps77] at hnt
 have hA := an_is anRB977 Tryz.mixed (aj2 @anRB977.eq_1 Tryz.results77)
 clear hwf
 simp only [argS]
 have hb : l.length * 32 ≤ 150000000000000 := by omega
 iterate 6 ((first | refine DW_seq fun K hK => ?_ | (refine DW_r anRB977 Tryz.mixed (by kernel_rfl) ?_; simp [anRB977, hnt]; try simp (disch := omega) only [wrap64_in]) | refine DW_block ?_ | (refine DW_if ?_ ?_ ?_; (· (simp [hnt]; done)); (try (rotate_left; (· (intro hc; (try simp [hnt] at hc); done))))) | (refine DW_ret ?_; simp [Tryz.results77, hnt]) | ((first | refine DW_exit ?_ | refine DW_skip ?_); simp [hnt]) | (intro hc; (try simp [hnt] at hc); (try (exfalso; omega))) | (refine ⟨?_, ?_⟩; · omega) | omega | apply_assumption -exfalso -symm | (exfalso; omega)))
 refine DW_adoptS 3 50 91 3 32 (by simp [hnt, Tryz.results77, anRB977]) (fun n => ?_)
 exact go0 aj0 aj0 (aj1 hb)
def anRB916 : Ann := ⟨[17], []⟩
set_option maxHeartbeats 1000000 in
theorem copies16_pure (ls : List (List Nd)) (hs : ∀ l ∈ ls, l.length ≤ 1310720) (hl : ls.length * 24 ≤ 140737488355328) : DPure Tryz.prog 16 [dBodies ls] (dBodies ls) := by
 refine DPure_introF [50] (fn := Tryz.f16) Tryz.func16 rfl Tryz.call16 (by simp [Tryz.ntmps16]) (by simp [mx]) ?_
 intro hwf B hnt
 simp only [Tryz.ntmps16] at hnt
 have hA := an_is anRB916 Tryz.mixed (aj2 @anRB916.eq_1 Tryz.results16)
 clear hwf
 simp only [argS]
 (refine go1 aj0 aj0 aj0 ?_; intros; refine mk_i ?_)
 refine DW_adoptS 3 50 42 1 24 (by simp [hnt, Tryz.results16, anRB916]) (fun n => ?_)
 refine DW_loop (X := {k : Nat // k ≤ ls.length}) (fun k => ⟨[(0, dBodies ls), (3, .osl 50 1), (4, .int .i64 k.1)], [⟨50, 1, .row 42 1 24 ((ls.take k.1).map rowB)⟩]⟩) (fun k => ls.length - k.1) ⟨0, by omega⟩ (Sub.lit (by simp)) ?_
 rintro ⟨k, hk⟩
 simp only
 by_cases hlt : k < ls.length
 ·obtain ⟨l, hx, hx', hm⟩ := at_lt' hlt
  have e1 := rcopy77_pure l (hs l hm)
  have hts : (ls.take (k + 1)).map rowB = (ls.take k).map rowB ++ [[dNds l]] := by rw [take_snoc hx, List.map_append]; rfl
  have hts2 : List.take (k + 1) (List.map rowB ls) = (ls.take k).map rowB ++ [[dNds l]] := by rw [← List.map_take]; exact hts
  have htl : (ls.take k).length ≤ k := by rw [List.length_take]; omega
  obtain ⟨T, hT⟩ : ∃ T, T = ls.take k := ⟨_, rfl⟩
  rw [← hT] at hts2 htl ⊢
  have hb : (T.length + 1) * 24 ≤ 150000000000000 := by omega
  have hwk : IntKind.i64.wrap ((k : Int) + 1) = (k : Int) + 1 := wrap64_in (by omega) (by omega)
  (refine go1 (aj1 e1) aj0 (aj6 @rowB.eq_1 hlt hx hx' hb hwk) ?_; intros; refine mk_i ?_)
  refine Again.mk ⟨k + 1, by omega⟩ (Sub.lit (by simp [hts2])) (by simp; omega)
  skip
 ·have hkk : k = ls.length := by omega
  subst hkk
  rw [List.take_length]
  exact go0 aj0 aj0 aj0
def anRB918 : Ann := ⟨[], []⟩
theorem may18_pure (g : List Rul) (c : Int) (h : DPure Tryz.prog 48 [dRuls g] (.int .i64 c)) : DPure Tryz.prog 18 [dRuls g] (.bool (decide (c = 0))) := by
 refine DPure_introF [] (fn := Tryz.f18) Tryz.func18 rfl Tryz.call18 (by simp [Tryz.ntmps18]) (by simp [mx]) ?_
 intro hwf B hnt
 simp only [Tryz.ntmps18] at hnt
 have hA := an_is anRB918 Tryz.mixed (aj2 @anRB918.eq_1 Tryz.results18)
 clear hwf
 simp only [argS]
 exact go0 (aj1 h) aj0 aj0
end Go.Proofs.YtdgocjbakjamaaaGreat
end

section
/- boxes: the law -/






set_option linter.unusedSimpArgs false
set_option linter.unusedVariables false
namespace Go.Proofs.YtdgocjbakjamaaaGreat
open Go Go.Dm
attribute [local irreducible] DW callP callS
set_option maxRecDepth 100000

mutual
theorem flat_inj : ∀ (t t' : RT) (r r' : List Nd), okT t = true → okT t' = true → flat t ++ r = flat t' ++ r' → t = t' ∧ r = r'
 | .mk x ks, .mk x' ks', r, r', h, h', he => by
  rw [flat_mk, flat_mk, List.cons_append, List.cons_append] at he
  injection he with h1 h2
  subst h1
  have h3 := (okT_mk h).2.1
  have h4 := (okT_mk h').2.1
  obtain ⟨h5, h6⟩ := flatL_inj ks ks' r r' (okT_mk h).2.2 (okT_mk h').2.2 (by omega) h2
  exact ⟨by rw [h5], h6⟩
theorem flatL_inj : ∀ (ks ks' : List RT) (r r' : List Nd), okL ks = true → okL ks' = true → ks.length = ks'.length → flatL ks ++ r = flatL ks' ++ r' → ks = ks' ∧ r = r'
 | [], [], r, r', _, _, _, he => by rw [flatL_nil] at he; exact ⟨rfl, by simpa using he⟩
 | [], _ :: _, _, _, _, _, hl, _ => by simp at hl
 | _ :: _, [], _, _, _, _, hl, _ => by simp at hl
 | u :: us, u' :: us', r, r', h, h', hl, he => by
  rw [flatL_cons, flatL_cons, List.append_assoc, List.append_assoc] at he
  obtain ⟨h1, h2⟩ := flat_inj u u' _ _ (okL_cons h).1 (okL_cons h').1 he
  obtain ⟨h3, h4⟩ := flatL_inj us us' r r' (okL_cons h).2 (okL_cons h').2 (by simpa using hl) h2
  exact ⟨by rw [h1, h3], h4⟩
end
theorem trees_inj : ∀ (ts ts' : List RT), (∀ t ∈ ts, okT t = true) → (∀ t ∈ ts', okT t = true) → ts.map flat = ts'.map flat → ts = ts'
 | [], [], _, _, _ => rfl
 | [], _ :: _, _, _, h => by simp at h
 | _ :: _, [], _, _, h => by simp at h
 | t :: ts, t' :: ts', h, h', he => by
  rw [List.map_cons, List.map_cons] at he
  injection he with h1 h2
  have h3 := (flat_inj t t' [] [] (h t List.mem_cons_self) (h' t' List.mem_cons_self) (by rw [h1])).1
  have h4 := trees_inj ts ts' (fun u hu => h u (List.mem_cons_of_mem _ hu)) (fun u hu => h' u (List.mem_cons_of_mem _ hu)) h2
  rw [h3, h4]
theorem g_check (g : List Rul) (hs : SmlG g) : ∃ c : Int, DPure Tryz.prog 63 [dRuls g] (.int .i64 c) ∧ DPure Tryz.prog 48 [dRuls g] (.int .i64 c) ∧ (c = 0 → 1 ≤ g.length ∧ g.length ≤ 64) := by
 by_cases h : g.length < 1 ∨ 64 < g.length
 ·exact ⟨180, check63_count g h, rcheck48_count g h, by omega⟩
 ·cases ht : treesB g with
  | false => exact ⟨170, check63_bad g (by omega) (by omega) hs ht, rcheck48_bad g (by omega) (by omega) hs ht, by omega⟩
  | true =>
   obtain ⟨gt, rfl, hk⟩ := trees_gt ht
   have hl := mkG_len gt
   exact ⟨codeT gt, check63_gt gt (by omega) (by omega) hk hs, rcheck48_gt gt (by omega) (by omega) hk hs, by omega⟩
def anRB1015 : Ann := ⟨[], [⟨16, [13], [], []⟩, ⟨17, [14], [], []⟩, ⟨30, [20], [], []⟩]⟩
theorem box_nil (ls : List (List Nd)) : DPure Tryz.prog 15 [.nilp, dBodies ls] (.tup [autoZ, .int .i64 1]) := by
 refine DPure_introF [4] (fn := Tryz.f15) Tryz.func15 rfl Tryz.call15 (by simp [Tryz.ntmps15]) (by simp [mx]) ?_
 intro hwf B hnt
 simp only [Tryz.ntmps15] at hnt
 have hA := an_is anRB1015 Tryz.mixed (aj2 @anRB1015.eq_1 Tryz.results15)
 clear hwf
 simp only [argS]
 exact go0 aj0 aj0 aj0
def anRB1017 : Ann := ⟨[], [⟨1, [1], [], []⟩]⟩
theorem head17_pure : DPure Tryz.prog 17 [] (.bool true) := by
 refine DPure_introF [] (fn := Tryz.f17) Tryz.func17 rfl Tryz.call17 (by simp [Tryz.ntmps17]) (by simp [mx]) ?_
 intro hwf B hnt
 simp only [Tryz.ntmps17] at hnt
 have hA := an_is anRB1017 Tryz.mixed (aj2 @anRB1017.eq_1 Tryz.results17)
 clear hwf
 simp only [argS]
 have e1 : DPure Tryz.prog 15 [.nilp, .sl 1 24 []] (.tup [autoZ, .int .i64 1]) := box_nil []
 have e2 : DPure Tryz.prog 23 [.agg [.int .i64 0, .sl 1 8 [], .sl 4 32 []]] (.int .i64 200) := by
  have h := check7_pure ⟨0, [], []⟩
  rw [show autoOK ⟨0, [], []⟩ = false by decide] at h
  exact h
 have e3 : DPure Tryz.prog 23 [.agg [.int .i64 1, .sl 1 8 [], .sl 4 32 []]] (.int .i64 0) := by
  have h := check7_pure ⟨1, [], []⟩
  rw [show autoOK ⟨1, [], []⟩ = true by decide] at h
  exact h
 exact go0 (aj3 e1 e2 e3) aj0 aj0
end Go.Proofs.YtdgocjbakjamaaaGreat
end

section
/- 'BoxShape': one state more than occurrences, all count, no arc leads to the first, arcs into one state have one symbol. -/




set_option linter.unusedSimpArgs false
set_option linter.unusedVariables false
namespace Go.Proofs.YtdgocjbakjamaaaGreat
open Go Go.Dm
attribute [local irreducible] DW callP callS
set_option maxRecDepth 100000

theorem boxA_live (H L : List ByteArray) (ts : List RT) (h64 : (lvL ts).length ≤ 64) (hok : ∀ t ∈ ts, okT t = true) (hne : ts ≠ []) : (numsB (livS (boxA (symS H L) ts))).length = (lvL ts).length + 1 := by
 have ha := boxA_ok H L ts h64
 obtain ⟨a1, a2, a3⟩ := livA_ok ha
 obtain ⟨b1, b2, b3⟩ := livB_ok ha
 have hn : (boxA (symS H L) ts).st.toNat = (lvL ts).length + 1 := by unfold boxA; simp only; omega
 rw [hn] at a1 b1
 have hA : livA (boxA (symS H L) ts) = List.replicate ((lvL ts).length + 1) true := all_rep a1 fun q hq => all_ahead (sy := symS H L) hok (fun i => bAt (livA (boxA (symS H L) ts)) i = true) a2 a3 q (by omega)
 have hB : livB (boxA (symS H L) ts) = List.replicate ((lvL ts).length + 1) true := all_rep b1 fun q hq => all_behind (sy := symS H L) hok hne (fun i => bAt (livB (boxA (symS H L) ts)) i = true) (fun p hp => by
  have := ok_fin ha hp
  obtain ⟨u, rfl⟩ : ∃ u : Nat, p = (u : Int) := ⟨p.toNat, by omega⟩
  exact b2 u hp) b3 q (by omega)
 unfold livS
 rw [hn, andK_all hA hB _ (Nat.le_refl _), nums_rep]
theorem compL_le {α : Type} (e : α → α → Bool) (l : List α) : (compL e l).length ≤ l.length := by
 cases l with
 | nil => simp [compL]
 | cons p t =>
  have := compGoS_len e t p
  simp only [compL, List.length_cons]
  omega
theorem arcsB_len (sy : Nd → Sym) (ts : List RT) (h : ∀ t ∈ ts, (flat t).length ≤ 2048) (h64 : (lvL ts).length ≤ 64) : (arcsB sy ts).length ≤ 1073741888 := by
 have h1 := compL_le (fun x y => arcC x y == 0) (sortC arcC (arcsP sy ts))
 rw [(sortC_perm arcC (arcsP sy ts)).length_eq] at h1
 have h2 := prL_few ts 0 h h64
 have h3 := fiN_len ts 0
 unfold arcsB
 unfold arcsP at h1 ⊢
 rw [List.length_map, List.length_append, List.length_map] at h1
 omega
def anBY54 : Ann := ⟨[], [⟨4, [7], [], []⟩]⟩
set_option maxHeartbeats 8000000 in
theorem boxShape_pure (g : List Rul) (ls : List (List Nd)) (hs : SmlG g) (hl : ∀ l ∈ ls, l.length ≤ 1310720) (hll : ls.length ≤ 2000000) : DPure Tryz.prog 4 [dRuls g, dBodies ls] (.bool true) := by
 obtain ⟨c, p1, p2, p3⟩ := g_check g hs
 have e1 := head17_pure
 have e2 := copies16_pure ls hl (by omega)
 have e3 := may18_pure g c p2
 by_cases hcz : c = 0
 ·obtain ⟨g1, g2⟩ := p3 hcz
  subst hcz
  have hn := names_le (k := 3) hs
  have hh := headsL_len g
  have hlab : (labelsL' g).length ≤ (namesK 3 g).length := uniqS_len _
  have e4 := of14_ok g (by omega) (by omega) (by omega) p1
  have hH : (headsL g).length ≠ 0 := by
   intro h0
   obtain ⟨r, hr⟩ : ∃ r, r ∈ g := by
    cases g with
    | nil => simp at g1
    | cons r g => exact ⟨r, List.mem_cons_self⟩
   have h1 : r.h ∈ headsL g := headsL_mem.2 ⟨r, hr, rfl⟩
   rw [List.length_eq_zero_iff.1 h0] at h1
   simp at h1
  by_cases hW : wrongI (headsL g) (labelsL' g) ls = 0
  ·have hts : ∃ ts : List RT, ls = ts.map flat ∧ (∀ t ∈ ts, okT t = true ∧ (flat t).length ≤ 2048) ∧ occS ls ≤ 64 ∧ errF ls = 0 ∧ ls.any (bad4 (headsL g) (labelsL' g)) = false := by
    have hW := hW
    unfold wrongI at hW
    split at hW
    ·rename_i he
     obtain ⟨ts, h1, h2⟩ := errF_trees he
     split at hW
     ·omega
     ·rename_i hb
      split at hW
      ·omega
      ·exact ⟨ts, h1, h2, by omega, he, by simpa using hb⟩
    ·rename_i he; exact absurd hW he
   obtain ⟨ts, hts, htp, hoc, he0, hb0⟩ := hts
   have hokt : ∀ t ∈ ts, okT t = true := fun t ht => (htp t ht).1
   have huq : ∀ ts', ls = ts'.map flat → (∀ t ∈ ts', okT t = true ∧ (flat t).length ≤ 2048) → ts' = ts := fun ts' h h' => trees_inj ts' ts (fun t ht => (h' t ht).1) hokt (by rw [← h, hts])
   have e5 := of15_pure (headsL g) (labelsL' g) ls (.tup [boxF (headsL g) (labelsL' g) ts, .int .i64 0]) hH ⟨fun h => absurd he0 h, fun _ h => by rw [hb0] at h; simp at h, fun _ _ h => by omega, fun _ ts' h h' _ _ => by rw [huq ts' h h']⟩ (by simp [boxF, autoD, mx, mxL])
   rw [boxA_eq] at e5
   have hon := occS_trees ts
   rw [← hts] at hon
   have hAok := boxA_ok (headsL g) (labelsL' g) ts (by omega)
   have hlv : 0 < ls.length → (numsB (livS (boxA (symS (headsL g) (labelsL' g)) ts))).length = (lvL ts).length + 1 := fun h => boxA_live _ _ ts (by omega) hokt (by rintro rfl; rw [hts] at h; simp at h)
   have hal : (boxA (symS (headsL g) (labelsL' g)) ts).arcs.length ≤ 1073741888 := arcsB_len _ _ (fun t ht => (htp t ht).2) (by omega)
   have hst : (boxA (symS (headsL g) (labelsL' g)) ts).st = (lvL ts).length + 1 := rfl
   have hone : ∀ x ∈ (boxA (symS (headsL g) (labelsL' g)) ts).arcs, ∀ y ∈ (boxA (symS (headsL g) (labelsL' g)) ts).arcs, x.to ≠ 0 ∧ (x.to = y.to → x.sy = y.sy) := fun x hx y hy => arc_one hx hy
   obtain ⟨A, hA⟩ : ∃ A, A = boxA (symS (headsL g) (labelsL' g)) ts := ⟨_, rfl⟩
   rw [← hA] at e5 hAok hlv hst hone hal
   have e6 := live22_pure A hAok
   have e7 := check7_pure A
   rw [hAok] at e7
   simp only [if_true] at e7
   obtain ⟨V, hV⟩ : ∃ V, V = numsB (livS A) := ⟨_, rfl⟩
   rw [← hV] at hlv e6
   simp only [dAuto] at e5 e6 e7
   refine DPure_introF [] (fn := Tryz.f4) Tryz.func4 rfl Tryz.call4 (by simp [Tryz.ntmps4]) (by simp [mx]) ?_
   intro hwf B hnt
   simp only [Tryz.ntmps4] at hnt
   have hA := an_is anBY54 Tryz.mixed (aj2 @anBY54.eq_1 Tryz.results4)
   clear hwf
   simp only [argS]
   (refine go1 (aj5 e1 e2 e3 e4 e5) aj0 aj0 ?_; intros; refine mk_i ?_)
   clear e1 e2 e3 e4 e5 p1 p2 p3
   refine DW_loop (X := {k : Nat // k ≤ ls.length}) (fun k => ⟨[(1, dBodies ls), (7, .ref [.int .i64 A.st, dNums A.fin, dArcs A.arcs]), (9, .int .i64 (occS (ls.take k.1))), (10, .int .i64 k.1)], []⟩) (fun k => ls.length - k.1) ⟨0, by simp⟩ (Sub.lit (by simp [occS_nil])) ?_
   rintro ⟨k, hk⟩
   simp only
   by_cases hlt : k < ls.length
   ·obtain ⟨l, hl1, hl', hlm⟩ := at_lt' hlt
    have hos := occS_snoc (ls.take k) l
    rw [← take_snoc hl1] at hos
    have hot := occS_take (ls := ls) (k := k + 1)
    obtain ⟨m, hm2⟩ : ∃ m, m = occS (ls.take k) := ⟨_, rfl⟩
    rw [← hm2] at hos ⊢
    have e8 := occ13_pure l
    have hw5 : IntKind.i64.wrap ((m : Int) + (occN l : Int)) = (occS (ls.take (k + 1)) : Int) := by rw [wrap64_in (by omega) (by omega), hos]; omega
    (refine go1 (aj1 e8) aj0 (aj5 hlt hl1 hl' @rowB.eq_1 hw5) ?_; intros; refine mk_i ?_)
    refine Again.mk ⟨k + 1, by omega⟩ (Sub.lit (by simp)) (by simp; omega)
    skip
   ·have hkk : k = ls.length := by omega
    subst hkk
    rw [List.take_length]
    have hw6 : IntKind.i64.wrap ((occS ls : Int) + 1) = A.st := by rw [wrap64_in (by omega) (by omega), hst, hon]
    have hVs : 0 < ls.length → ((V.length : Int) = A.st) := fun h => by rw [hlv h, hst]; rfl
    clear hs hl hk hlt
    (refine go1 (aj2 e6 e7) aj0 (aj1 hw6) ?_; intros; refine mk_i ?_)
    clear e6 e7 hlv hVs hV
    refine DW_loop (X := {i : Nat // i ≤ A.arcs.length}) (fun i => ⟨[(7, .ref [.int .i64 A.st, dNums A.fin, dArcs A.arcs]), (13, .int .i64 i.1)], []⟩) (fun i => A.arcs.length - i.1) ⟨0, by simp⟩ (Sub.lit (by simp)) ?_
    rintro ⟨i, hi⟩
    simp only
    by_cases hlt : i < A.arcs.length
    ·obtain ⟨x, hx, hx', hxm⟩ := at_lt' hlt
     (refine go1 aj0 aj0 (aj1 hlt) ?_; intros; refine mk_i ?_)
     refine DW_loop (X := {j : Nat // j ≤ A.arcs.length}) (fun j => ⟨[(7, .ref [.int .i64 A.st, dNums A.fin, dArcs A.arcs]), (13, .int .i64 i), (14, .int .i64 j.1)], []⟩) (fun j => A.arcs.length - j.1) ⟨0, by simp⟩ (Sub.lit (by simp)) ?_
     rintro ⟨j, hj⟩
     simp only
     by_cases hlt2 : j < A.arcs.length
     ·obtain ⟨y, hy, hy', hym⟩ := at_lt' hlt2
      obtain ⟨n0, hsy⟩ := hone x hxm y hym
      have n1 : (x.to == 0) = false := by simpa using n0
      by_cases hto : x.to = y.to
      ·have hs1 : x.sy.label = y.sy.label := by rw [hsy hto]
       have hs2 : x.sy.n = y.sy.n := by rw [hsy hto]
       (refine go1 aj0 aj0 (aj12 @dArc.eq_1 hlt hlt2 hx hx' hy hy' n0 n1 hto hs1 hs2) ?_; intros; refine mk_i ?_)
       refine Again.mk ⟨j + 1, by omega⟩ (Sub.lit (by simp)) (by simp; omega)
       skip
      ·have hto2 : (x.to == y.to) = false := by simpa using hto
       (refine go1 aj0 aj0 (aj11 @dArc.eq_1 hlt hlt2 hx hx' hy hy' n0 n1 hto hto2) ?_; intros; refine mk_i ?_)
       refine Again.mk ⟨j + 1, by omega⟩ (Sub.lit (by simp)) (by simp; omega)
       skip
     ·have hkk : j = A.arcs.length := by omega
      subst hkk
      (refine go1 aj0 aj0 aj0 ?_; intros; refine mk_i ?_)
      refine Again.mk ⟨i + 1, by omega⟩ (Sub.lit (by simp)) (by simp; omega)
      skip
    ·have hkk : i = A.arcs.length := by omega
     subst hkk
     exact go0 aj0 aj0 aj0
  ·have e5 := of15_pure (headsL g) (labelsL' g) ls (.tup [autoZ, .int .i64 (wrongI (headsL g) (labelsL' g) ls)]) hH ⟨fun h => by unfold wrongI; rw [if_neg h], fun h h' => by unfold wrongI; rw [if_pos h, if_pos h'], fun h h' h'' => by unfold wrongI; rw [if_pos h, if_neg (by rw [h']; simp), if_pos h''], fun he ts' h h' h'' h3 => by
    exfalso
    apply hW
    unfold wrongI
    rw [if_pos he, if_neg (by rw [h'']; simp), if_neg (by omega)]⟩ (by simp [mx, mxL])
   obtain ⟨W, hWW⟩ : ∃ W, W = wrongI (headsL g) (labelsL' g) ls := ⟨_, rfl⟩
   rw [← hWW] at e5 hW
   have hWb : (W == 0) = false := by simpa using hW
   refine DPure_introF [] (fn := Tryz.f4) Tryz.func4 rfl Tryz.call4 (by simp [Tryz.ntmps4]) (by simp [mx]) ?_
   intro hwf B hnt
   simp only [Tryz.ntmps4] at hnt
   have hA := an_is anBY54 Tryz.mixed (aj2 @anBY54.eq_1 Tryz.results4)
   clear hwf
   simp only [argS]
   exact go0 (aj5 e1 e2 e3 e4 e5) aj0 (aj2 hW hWb)
 ·have e4 := of14_err g c hcz p1
  have e5 := box_nil ls
  rw [decide_eq_false hcz] at e3
  have hcb : (c == 0) = false := by simpa using hcz
  refine DPure_introF [] (fn := Tryz.f4) Tryz.func4 rfl Tryz.call4 (by simp [Tryz.ntmps4]) (by simp [mx]) ?_
  intro hwf B hnt
  simp only [Tryz.ntmps4] at hnt
  have hA := an_is anBY54 Tryz.mixed (aj2 @anBY54.eq_1 Tryz.results4)
  clear hwf
  simp only [argS]
  exact go0 (aj5 e1 e2 e3 e4 e5) aj0 (aj2 hcz hcb)
end Go.Proofs.YtdgocjbakjamaaaGreat
end

section
set_option linter.unusedSectionVars false
/- The data machine, second make, part U: what an argument that came in reads as: the given reading turned into data. -/





set_option linter.unusedSimpArgs false
set_option linter.unusedVariables false
namespace Go.Dm
variable [DMode]

inductive Sh where
 | b
 | i (k : IntKind)
 | s
 | sl (k bs : Nat) (c : List Sh)

mutual
def HasS (L : Nat) : Sh → DVal → Prop
 | .b, d => ∃ b, d = .bool b
 | .i k, d => ∃ n, d = .int k n
 | .s, d => ∃ x : ByteArray, d = .str x ∧ x.size ≤ L
 | .sl k bs c, d => ∃ es, d = .sl k bs es ∧ es.length * bs ≤ L ∧ ∀ e ∈ es, HasL L c e
def HasL (L : Nat) : List Sh → List DVal → Prop
 | [], ds => ds = []
 | x :: r, ds => ∃ d t, ds = d :: t ∧ HasS L x d ∧ HasL L r t
end

theorem HasL_append {L : Nat} : ∀ {a b : List Sh} {x y : List DVal}, HasL L a x → HasL L b y → HasL L (a ++ b) (x ++ y)
 | [], b, x, y, h, k => by simp only [HasL] at h; subst h; exact k
 | a :: r, b, x, y, h, k => by
  simp only [HasL] at h
  obtain ⟨d, t, rfl, h1, h2⟩ := h
  simp only [List.cons_append, HasL]
  exact ⟨d, t ++ y, rfl, h1, HasL_append h2 k⟩

def shF (g : TypeId → Option (List Sh)) (cells : TypeId → Nat) : List Field → Nat → Option (List Sh × Nat)
 | [], off => some ([], off)
 | f :: r, off => if f.offset = off then
  (match g f.type, shF g cells r (off + cells f.type) with
  | some c, some (l, e) => some (c ++ l, e)
  | _, _ => none) else none

def shOf (P : Program) : Nat → TypeId → Option (List Sh)
 | 0, _ => none
 | n + 1, t => match P.underlying t with
  | some .bool => some [.b]
  | some (.int k) => some [.i k]
  | some .string => some [.s]
  | some (.slice e) => if 0 < P.cellsOf e then (shOf P n e).map fun c => [.sl (P.cellsOf e) (P.bytesOf e) c] else none
  | some (.struct fs) => match shF (shOf P n) P.cellsOf fs.toList 0 with
   | some (l, e) => if e = P.cellsOf t then some l else none
   | none => none
  | _ => none

theorem mapM_some {α β : Type} {f : α → Option β} : ∀ {l : List α} {r : List β}, l.mapM f = some r → r.length = l.length ∧ ∀ (i : Nat) (x : α), l[i]? = some x → ∃ y, r[i]? = some y ∧ f x = some y
 | [], r, h => by simp at h; subst h; simp
 | a :: l, r, h => by
  rw [List.mapM_cons] at h
  cases hf : f a with
  | none => rw [hf] at h; simp at h
  | some y =>
   rw [hf] at h
   cases hm : l.mapM f with
   | none => rw [hm] at h; simp at h
   | some r' =>
    rw [hm] at h
    simp at h
    subst h
    obtain ⟨h1, h2⟩ := mapM_some hm
    refine ⟨by simp [h1], fun i x hx => ?_⟩
    cases i with
    | zero => simp only [List.getElem?_cons_zero, Option.some.injEq] at hx; subst hx; exact ⟨y, rfl, hf⟩
    | succ i => simp only [List.getElem?_cons_succ] at hx ⊢; exact h2 i x hx

theorem rdV_len {cur : Cur} {M : List Nat} {h : Array Obj} : ∀ {a : List DVal} {x : List Value}, rdV cur M h a x → a.length = x.length
 | [], x, h1 => by simp only [rdV] at h1; subst h1; rfl
 | d :: a, x, h1 => by
  simp only [rdV] at h1
  obtain ⟨v, r, rfl, h3, h4⟩ := h1
  simp [rdV_len h4]

theorem rdC_of_rdV {cur : Cur} {M : List Nat} {h : Array Obj} {arr : Array Value} : ∀ {a : List DVal} {x : List Value} {o : Nat}, rdV cur M h a x → (∀ v ∈ x, v.oneCell' = true) → (∀ (j : Nat) v, x[j]? = some v → arr[o + j]? = some v) → rdC cur M h a arr o
 | [], x, o, h1, _, _ => by simp [rdC]
 | d :: a, x, o, h1, h2, h3 => by
  simp only [rdV] at h1
  obtain ⟨v, r, rfl, h4, h5⟩ := h1
  simp only [rdC]
  refine ⟨⟨v, by simpa using h3 0 v rfl, h2 v (by simp), h4⟩, rdC_of_rdV h5 (fun u hu => h2 u (by simp [hu])) fun j u hu => ?_⟩
  have := h3 (j + 1) u (by simpa using hu)
  rw [← this]; congr 1; omega

theorem rows_of {L : Nat} {cur : Cur} {M : List Nat} {h : Array Obj} {arr : Array Value} {k : Nat} {c : List Sh} : ∀ (len off : Nat), (∀ i, i < len → ∃ ds, ds.length = k ∧ rdC cur M h ds arr (off + i * k) ∧ HasL L c ds) →
  ∃ es, es.length = len ∧ rdR cur M h k es arr off ∧ ∀ e ∈ es, HasL L c e
 | 0, off, _ => ⟨[], rfl, by simp [rdR], by simp⟩
 | len + 1, off, hh => by
  obtain ⟨ds, h1, h2, h3⟩ := hh 0 (by omega)
  obtain ⟨es, h4, h5, h6⟩ := rows_of len (off + k) (fun i hi => by
   obtain ⟨ds, h1, h2, h3⟩ := hh (i + 1) (by omega)
   refine ⟨ds, h1, ?_, h3⟩
   have : off + k + i * k = off + (i + 1) * k := by rw [Nat.add_mul]; omega
   rw [this]; exact h2)
  refine ⟨ds :: es, by simp [h4], ?_, ?_⟩
  ·simp only [rdR]; exact ⟨h1, by simpa using h2, h5⟩
  ·intro e he
   rcases List.mem_cons.1 he with rfl | he
   ·exact h3
   ·exact h6 e he

theorem inR_of_wf {k : IntKind} {n : Int} (h : (Lit.int k n).wf = true) : inR k n := by
 cases k <;> simpa [Lit.wf, IntKind.min, IntKind.max, IntKind.signed, IntKind.bits, inR] using h

theorem shF_mono {g : TypeId → Option (List Sh)} {cells : TypeId → Nat} : ∀ {fs : List Field} {off e : Nat} {l : List Sh}, shF g cells fs off = some (l, e) → off ≤ e
 | [], off, e, l, h => by simp only [shF, Option.some.injEq, Prod.mk.injEq] at h; omega
 | f :: r, off, e, l, h => by
  simp only [shF] at h
  split at h
  ·split at h
   ·rename_i c l' e' h1 h2
    simp only [Option.some.injEq, Prod.mk.injEq] at h
    have := shF_mono h2
    omega
   ·simp at h
  ·simp at h

section
variable {H : Type} {enc : TypeId × Value → H} {P : Program} {w : World} {cur : Cur}

def RdArg (L : Nat) (P : Program) (cur : Cur) (w : World) (cs : List Value) (shs : List Sh) : Prop :=
 ∃ ds, rdV cur [] w.heap ds cs ∧ (∀ v ∈ cs, v.oneCell' = true) ∧ HasL L shs ds

theorem fields_rd {L fuel n : Nat} (ih : ∀ {t : TypeId} {cs : List Value} {d : DataW H} {ps : List MemPlace} {shs : List Sh}, DataW.trod enc P w 0 (fun _ => true) true fuel t cs = some (d, ps) → shOf P n t = some shs → (∀ x ∈ d.weights P t, x ≤ L) → RdArg L P cur w cs shs)
  (cs : List Value) : ∀ (fs : List Field) (off e : Nat) (l : List Sh) (xs : List (DataW H × List MemPlace)),
   fs.mapM (fun f => DataW.trod enc P w 0 (fun _ => true) true fuel f.type ((cs.drop f.offset).take (P.cellsOf f.type))) = some xs → shF (shOf P n) P.cellsOf fs off = some (l, e) →
   (∀ x ∈ DataW.weightsEach P (fs.map (·.type)) (xs.map (·.1)), x ≤ L) → RdArg L P cur w ((cs.drop off).take (e - off)) l
 | [], off, e, l, xs, h1, h2, h3 => by
  simp only [shF, Option.some.injEq, Prod.mk.injEq] at h2
  obtain ⟨rfl, rfl⟩ := h2
  exact ⟨[], by simp [rdV], by simp, by simp [HasL]⟩
 | f :: fs, off, e, l, xs, h1, h2, h3 => by
  rw [List.mapM_cons] at h1
  simp only [shF] at h2
  split at h2
  ·rename_i hoff
   split at h2
   ·rename_i c l' e' h4 h5
    simp only [Option.some.injEq, Prod.mk.injEq] at h2
    obtain ⟨rfl, rfl⟩ := h2
    have hm := shF_mono h5
    cases hf : DataW.trod enc P w 0 (fun _ => true) true fuel f.type ((cs.drop f.offset).take (P.cellsOf f.type)) with
    | none => rw [hf] at h1; simp at h1
    | some x =>
     rw [hf] at h1
     cases hr : fs.mapM (fun f => DataW.trod enc P w 0 (fun _ => true) true fuel f.type ((cs.drop f.offset).take (P.cellsOf f.type))) with
     | none => rw [hr] at h1; simp at h1
     | some xr =>
      rw [hr] at h1
      simp at h1
      subst h1
      simp only [List.map_cons, DataW.weightsEach, List.mem_append] at h3
      obtain ⟨d1, a1, a2, a3⟩ := ih hf h4 (fun y hy => h3 y (.inl hy))
      obtain ⟨d2, b1, b2, b3⟩ := fields_rd ih cs fs (off + P.cellsOf f.type) e' l' xr hr h5 (fun y hy => h3 y (.inr hy))
      have hsp : (cs.drop off).take (e' - off) = (cs.drop f.offset).take (P.cellsOf f.type) ++ (cs.drop (off + P.cellsOf f.type)).take (e' - (off + P.cellsOf f.type)) := by
       rw [hoff, ← List.drop_drop, show e' - off = P.cellsOf f.type + (e' - (off + P.cellsOf f.type)) by omega, List.take_add]
      rw [hsp]
      exact ⟨d1 ++ d2, rdV_append _ _ _ _ a1 b1, fun v hv => (List.mem_append.1 hv).elim (a2 v) (b2 v), HasL_append a3 b3⟩
   ·simp at h2
  ·simp at h2

theorem weightsAll_mem {e : TypeId} : ∀ {l : List (DataW H)} {d : DataW H}, d ∈ l → ∀ x ∈ d.weights P e, x ∈ DataW.weightsAll P e l
 | a :: l, d, hd, x, hx => by
  simp only [DataW.weightsAll, List.mem_append]
  rcases List.mem_cons.1 hd with rfl | hd
  ·exact .inl hx
  ·exact .inr (weightsAll_mem hd x hx)

theorem cells_get {a : Addr} {n : Nat} {cs : List Value} (h : w.cells? 0 a n = some cs) : cs.length = n ∧ ∀ (j : Nat) v, cs[j]? = some v → w.cell? (a.add j) = some v := by
 unfold World.cells? at h
 rw [if_pos (Nat.zero_le _)] at h
 obtain ⟨h1, h2⟩ := mapM_some h
 rw [List.length_range] at h1
 refine ⟨h1, fun j v hv => ?_⟩
 have hj : j < n := by rw [← h1]; exact (List.getElem?_eq_some_iff.1 hv).1
 obtain ⟨y, hy, hy'⟩ := h2 j j (by rw [List.getElem?_range hj])
 rw [hv] at hy
 rw [hy', hy]

theorem add_none (b o n : Nat) : (⟨b, o, none⟩ : Addr).add n = ⟨b, o + n, none⟩ := by
 unfold Addr.add
 split
 ·rename_i h; subst h; rfl
 ·rfl

theorem trod_rd {L : Nat} (hL : L ≤ 140737488355328) : ∀ {fuel n : Nat} {t : TypeId} {cs : List Value} {d : DataW H} {ps : List MemPlace} {shs : List Sh}, DataW.trod enc P w 0 (fun _ => true) true fuel t cs = some (d, ps) → shOf P n t = some shs →
  (∀ x ∈ d.weights P t, x ≤ L) → RdArg L P cur w cs shs
 | 0, n, t, cs, d, ps, shs, h, hs, hw => by simp [DataW.trod] at h
 | fuel + 1, 0, t, cs, d, ps, shs, h, hs, hw => by simp [shOf] at hs
 | fuel + 1, n + 1, t, cs, d, ps, shs, h, hs, hw => by
  unfold DataW.trod at h
  split at h
  ·rename_i b hu
   simp only [shOf, hu, Option.some.injEq] at hs
   subst hs
   exact ⟨[.bool b], by simp [rdV, rd], by simp [Value.oneCell'], by simp [HasL, HasS]⟩
  ·rename_i k k' n' hu
   simp only [shOf, hu, Option.some.injEq] at hs
   subst hs
   split at h
   ·rename_i hk
    obtain ⟨rfl, hk⟩ := hk
    exact ⟨[.int k' n'], by simp [rdV, rd, inR_of_wf hk], by simp [Value.oneCell'], by simp [HasL, HasS]⟩
   ·simp at h
  ·rename_i hu; simp [shOf, hu] at hs
  ·rename_i x hu
   simp only [shOf, hu, Option.some.injEq] at hs
   subst hs
   split at h
   ·rename_i hk
    simp only [Option.some.injEq, Prod.mk.injEq] at h
    obtain ⟨rfl, _⟩ := h
    have hsz := hw x.data.toList.length (by simp [DataW.weights])
    exact ⟨[.str x], by simp [rdV, rd, hk], by simp [Value.oneCell'], by simp only [HasL, HasS]; exact ⟨_, _, rfl, ⟨x, rfl, by rw [Array.length_toList] at hsz; exact hsz⟩, rfl⟩⟩
   ·simp at h
  ·rename_i hu; simp [shOf, hu] at hs
  ·rename_i hu; simp [shOf, hu] at hs
  ·rename_i e hu
   simp only [shOf, hu] at hs
   split at hs
   rotate_left
   ·simp at hs
   rename_i hk0
   rw [Option.map_eq_some_iff] at hs
   obtain ⟨c, hc, rfl⟩ := hs
   exact ⟨[.sl (P.cellsOf e) (P.bytesOf e) []], by simp only [rdV, rd]; exact ⟨_, _, rfl, ⟨none, 0, rfl, Nat.le_refl _, Nat.zero_le _, by simp, .inl ⟨trivial, fun _ => rfl⟩⟩, rfl⟩, by simp [Value.oneCell'], by simp [HasL, HasS]⟩
  ·rename_i e a len cap hu
   simp only [shOf, hu] at hs
   split at hs
   rotate_left
   ·simp at hs
   rename_i hk0
   rw [Option.map_eq_some_iff] at hs
   obtain ⟨c, hc, rfl⟩ := hs
   simp only at h
   split at h
   ·rename_i hb
    obtain ⟨_, hb1, hb2⟩ := hb
    cases hm : (List.range len).mapM (fun i => (w.cells? 0 (a.add (i * P.cellsOf e)) (P.cellsOf e)).bind (DataW.trod enc P w 0 (fun _ => true) true fuel e)) with
    | none => rw [hm] at h; simp at h
    | some elems =>
     rw [hm] at h
     simp only [Option.bind_some, if_true, Option.map_eq_some_iff] at h
     obtain ⟨rest, hr, h⟩ := h
     simp only [Prod.mk.injEq] at h
     obtain ⟨rfl, rfl⟩ := h
     simp only [DataW.weights, hu, List.mem_cons, List.mem_append, List.length_map] at hw
     obtain ⟨m1, m2⟩ := mapM_some hm
     rw [List.length_range] at m1
     have hsz := hw _ (.inl rfl)
     have hlen : len * P.bytesOf e ≤ L := Nat.le_trans (Nat.mul_le_mul_right _ (by omega)) hsz
     have hel : ∀ i, i < len → ∃ cs ds, w.cells? 0 (a.add (i * P.cellsOf e)) (P.cellsOf e) = some cs ∧ rdV cur [] w.heap ds cs ∧ (∀ v ∈ cs, v.oneCell' = true) ∧ HasL L c ds := by
      intro i hi
      obtain ⟨y, hy, hy'⟩ := m2 i i (by rw [List.getElem?_range hi])
      rw [Option.bind_eq_some_iff] at hy'
      obtain ⟨cs, hcs, hy'⟩ := hy'
      obtain ⟨d', p'⟩ := y
      have hmem : d' ∈ elems.map (·.1) := List.mem_map.2 ⟨_, List.mem_of_getElem? hy, rfl⟩
      obtain ⟨ds, b1, b2, b3⟩ := trod_rd hL hy' hc (fun x hx => hw x (.inr (.inl (weightsAll_mem hmem x hx))))
      exact ⟨cs, ds, hcs, b1, b2, b3⟩
     by_cases h0 : len = 0
     ·subst h0
      exact ⟨[.sl (P.cellsOf e) (P.bytesOf e) []], by simp only [rdV, rd]; exact ⟨_, _, rfl, ⟨some a, cap, rfl, Nat.zero_le _, hb2, by simp, .inl ⟨trivial, fun hh => by simp at hh⟩⟩, rfl⟩, by simp [Value.oneCell'], by simp [HasL, HasS]⟩
     ·obtain ⟨blk, off, spot⟩ := a
      obtain ⟨cs0, ds0, hcs0, _, _, _⟩ := hel 0 (by omega)
      obtain ⟨l1, l2⟩ := cells_get hcs0
      obtain ⟨v, hv⟩ : ∃ v, cs0[0]? = some v := ⟨_, List.getElem?_eq_getElem (by omega)⟩
      have hc0 : w.cell? ⟨blk, off, spot⟩ = some v := by simpa [Addr.add] using l2 0 v hv
      obtain ⟨arr, ty, fz, hblk, hspot⟩ : ∃ arr ty fz, w.heap[blk]? = some (.cells arr ty fz) ∧ spot = none := by
       simp only [World.cell?] at hc0
       split at hc0
       ·rename_i arr ty fz hb
        split at hc0
        ·simp at hc0
        ·rename_i hsp
         exact ⟨arr, ty, fz, hb, by simpa using hsp⟩
       ·simp at hc0
      subst hspot
      obtain ⟨es, e1, e2, e3⟩ := rows_of (cur := cur) (M := []) (h := w.heap) (arr := arr) (k := P.cellsOf e) (c := c) len off (fun i hi => by
       obtain ⟨cs, ds, hcs, b1, b2, b3⟩ := hel i hi
       obtain ⟨l1, l2⟩ := cells_get hcs
       refine ⟨ds, by rw [rdV_len b1, l1], rdC_of_rdV b1 b2 fun j u hu => ?_, b3⟩
       have := l2 j u hu
       rw [add_none, add_none] at this
       simpa [World.cell?, hblk] using this)
      refine ⟨[.sl (P.cellsOf e) (P.bytesOf e) es], ?_, by simp [Value.oneCell'], by simp only [HasL, HasS]; exact ⟨_, _, rfl, ⟨es, rfl, by rw [e1]; exact hlen, e3⟩, rfl⟩⟩
      simp only [rdV, rd]
      exact ⟨_, _, rfl, ⟨_, _, by rw [e1], by omega, hb2, by rw [e1]; omega, .inr ⟨blk, off, arr, ty, fz, rfl, by simp, hblk, e2⟩⟩, rfl⟩
   ·simp at h
  ·rename_i fs hu
   simp only [shOf, hu] at hs
   split at hs
   ·rename_i l e hf
    split at hs
    ·rename_i he
     simp only [Option.some.injEq] at hs
     subst hs
     subst he
     split at h
     ·rename_i hlen
      simp only [Option.map_eq_some_iff] at h
      obtain ⟨xs, hxs, h⟩ := h
      simp only [Prod.mk.injEq] at h
      obtain ⟨rfl, rfl⟩ := h
      simp only [DataW.weights, hu] at hw
      have := fields_rd (cur := cur) (fun h1 h2 h3 => trod_rd hL h1 h2 h3) _ fs.toList 0 (P.cellsOf t) l xs hxs hf hw
      simpa [← hlen] using this
     ·simp at h
    ·simp at hs
   ·simp at hs
  all_goals first | (simp at h; done) | (rename_i hu; simp [shOf, hu] at hs; done)

def isAggT (P : Program) (t : TypeId) : Bool := match P.underlying t with | some (.struct _) => true | _ => false
theorem arg_rd {L base n : Nat} (hL : L ≤ 140737488355328) {t : TypeId} {v : Value} {d : DataW H} {ps : List MemPlace} {shs : List Sh} (hv : Value.okWide P w .any base t v) (h : DataW.Trod enc P w 0 (fun _ => true) true t v d ps) (hs : shOf P n t = some shs)
  (hw : ∀ x ∈ d.weights P t, x ≤ L) : ∃ ds, HasL L shs ds ∧ if isAggT P t then rd cur [] w.heap (.agg ds) v else rdV cur [] w.heap ds [v] := by
 obtain ⟨fuel, h⟩ := h
 obtain ⟨ds, h1, h2, h3⟩ := trod_rd (cur := cur) hL h hs hw
 refine ⟨ds, h3, ?_⟩
 unfold isAggT
 split
 ·rename_i fs hu
  simp only [if_true]
  simp only [Value.okWide, hu] at hv
  obtain ⟨cs, rfl, _, _⟩ := hv
  simp only [rd]
  exact ⟨cs, rfl, h1⟩
 ·rename_i hu
  have hag : v.cells = #[v] := by
   cases n with
   | zero => simp [shOf] at hs
   | succ n =>
    cases v <;> first | rfl | skip
    rename_i cs
    unfold shOf at hs
    unfold Value.okWide at hv
    cases hu' : P.underlying t with
    | none => simp [hu'] at hs
    | some ty =>
     rw [hu'] at hs hv
     cases ty <;> simp [Cell.okWide, Cell.ok, hu'] at hs hv
     exact absurd hu' (hu _)
  rw [hag] at h1
  simpa using h1

def HasArgs (L : Nat) (P : Program) : List TypeId → List (List Sh) → List DVal → Prop
 | [], [], a => a = []
 | t :: ts, x :: xs, a => ∃ ds r, HasL L x ds ∧ a = (if isAggT P t then .agg ds else ds.headD .any) :: r ∧ HasArgs L P ts xs r
 | _, _, _ => False

theorem args_rd0 {L base n : Nat} (hL : L ≤ 140737488355328) : ∀ {ts : List TypeId} {vs : List Value} {ds : List (DataW H)} {ps : List MemPlace} {shs : List (List Sh)}, (∀ (j : Nat) t v, ts[j]? = some t → vs[j]? = some v → Value.okWide P w .any base t v) →
  DataW.TrodAll enc P w 0 (fun _ => true) true ts vs ds ps → ts.map (shOf P n) = shs.map some → (∀ x ∈ DataW.weightsEach P ts ds, x ≤ L) → ∃ das, rdV cur [] w.heap das vs ∧ HasArgs L P ts shs das
 | [], vs, ds, ps, shs, hv, hA, hs, hw => by
  obtain ⟨rfl, rfl, rfl⟩ := ChangeShapes.trodAll_nil hA
  cases shs with
  | nil => exact ⟨[], by simp [rdV], by simp [HasArgs]⟩
  | cons a b => simp at hs
 | t :: ts, vs, ds, ps, shs, hv, hA, hs, hw => by
  obtain ⟨v, vr, d, dr, p, q, rfl, rfl, rfl, h0, hr⟩ := ChangeShapes.trodAll_cons hA
  cases shs with
  | nil => simp at hs
  | cons x xs =>
   simp only [List.map_cons, List.cons.injEq] at hs
   simp only [DataW.weightsEach, List.mem_append] at hw
   obtain ⟨das, a1, a2⟩ := args_rd0 hL (fun j t v h1 h2 => hv (j + 1) t v (by simpa using h1) (by simpa using h2)) hr hs.2 (fun y hy => hw y (.inr hy))
   obtain ⟨dd, b1, b2⟩ := arg_rd (cur := cur) hL (hv 0 t v rfl rfl) h0 hs.1 (fun y hy => hw y (.inl hy))
   refine ⟨(if isAggT P t then .agg dd else dd.headD .any) :: das, ?_, by simp only [HasArgs]; exact ⟨dd, das, b1, rfl, a2⟩⟩
   simp only [rdV]
   refine ⟨v, vr, rfl, ?_, a1⟩
   split
   ·rename_i h; rw [if_pos h] at b2; exact b2
   ·rename_i h
    rw [if_neg h] at b2
    cases dd with
    | nil => simp [rdV] at b2
    | cons d0 dr =>
     simp only [rdV] at b2
     obtain ⟨u, r, hu, hd0, _⟩ := b2
     simp only [List.cons.injEq] at hu
     rw [hu.1]
     simpa using hd0

theorem args_rd {L base n : Nat} {ts : List TypeId} {vs : List Value} {ds : List (DataW H)} {ps : List MemPlace} {shs : List (List Sh)} (h1 : ∀ (j : Nat) t v, ts[j]? = some t → vs[j]? = some v → Value.okWide P w .any base t v)
 (h2 : DataW.TrodAll enc P w 0 (fun _ => true) true ts vs ds ps) (h3 : ts.map (shOf P n) = shs.map some) (h4 : ∀ x ∈ DataW.weightsEach P ts ds, x ≤ L) (hL : L ≤ 140737488355328 := by omega) : ∃ das, rdV cur [] w.heap das vs ∧ HasArgs L P ts shs das := args_rd0 hL h1 h2 h3 h4

theorem Upd.below {a b : World} (h : Upd [] a b) : RowKit.Below a.heap.size a b := ⟨h.os, h.tape, h.output, h.size, fun k hk => h.blk k hk (by simp)⟩

theorem trodAll_stays (hl : laidOutB P = true) {W W' : World} {sp : Nat → Bool} : ∀ {ts : List TypeId} {vs : List Value} {ds : List (DataW H)} {ps : List MemPlace}, (∀ t ∈ ts, P.readableRec t = true ∧ t < P.types.size) →
  DataW.TrodAll enc P W 0 (fun _ => true) true ts vs ds ps → (∀ p ∈ ps, W.sameAt W' p) → (∀ p ∈ ps, sp p.block = true) → DataW.TrodAll enc P W' 0 sp true ts vs ds ps
 | [], vs, ds, ps, ht, hA, h1, h2 => by
  obtain ⟨rfl, rfl, rfl⟩ := ChangeShapes.trodAll_nil hA
  rfl
 | t :: ts, vs, ds, ps, ht, hA, h1, h2 => by
  obtain ⟨v, vr, d, dr, p, q, rfl, rfl, rfl, h0, hr⟩ := ChangeShapes.trodAll_cons hA
  obtain ⟨k1, k2⟩ := ht t (by simp)
  exact ⟨p, q, WideElems.Trod_stays hl k1 k2 h0 (fun x hx => h1 x (by simp [hx])) (fun x hx => h2 x (by simp [hx])), trodAll_stays hl (fun t h => ht t (by simp [h])) hr (fun x hx => h1 x (by simp [hx])) (fun x hx => h2 x (by simp [hx])), rfl⟩

theorem law_post {fn : Func} {s : ChangeSpec} {fresh handsOn : Bool} {tb : TypeId} {W W' : World} {args : Array Value} {ds gs : List (DataW H)} {before : List MemPlace} (hl : laidOutB P = true)
  (hall : ∀ t ∈ fn.params.toList, P.readableRec t = true ∧ t < P.types.size) (hr : fn.resultTypes = #[tb]) (hub : P.underlying tb = some .bool) (hvars : s.vars = [])
  (hs : s.fn H (ds ++ gs) = { results := [.lit (.bool true)], args := ds }) (hW : DataW.Whole enc P fn.params.toList s.vars false W args.toList ds gs before) (hu : Upd [] W W') :
  s.post enc P fn false fresh handsOn false W args (.bool true) W' := by
 have hW' := hW
 obtain ⟨p, q, hA, hV, rfl, hfz, hnd⟩ := hW
 have hlt : ∀ x ∈ p, x.block < W.heap.size := fun x hx => hW'.lt x (by simp [hx])
 have hb := hu.below
 refine ⟨ds, gs, p ++ q, [], p, [], hW', ?_, ?_, ?_, hb.frame _, fun h => by cases h⟩
 ·rw [hs, hr]
  exact ChangeShapes.trodAll_mk1 (RowKit.shut_bool hub true)
 ·rw [hs]
  exact trodAll_stays hl hall hA (fun x hx => hb.same (hlt x hx)) (fun x hx => by simpa using hlt x hx)
 ·rw [hs, hvars]
  rfl

theorem law_contract {f : FuncId} {fn : Func} {s : ChangeSpec} {fresh handsOn : Bool} {tb : TypeId} {W : World} {args : Array Value} {das : List DVal} {ds gs : List (DataW H)} {before : List MemPlace} (hl : laidOutB P = true)
  (hall : ∀ t ∈ fn.params.toList, P.readableRec t = true ∧ t < P.types.size) (hr : fn.resultTypes = #[tb]) (hub : P.underlying tb = some .bool) (hvars : s.vars = [])
  (hs : s.fn H (ds ++ gs) = { results := [.lit (.bool true)], args := ds }) (hW : DataW.Whole enc P fn.params.toList s.vars false W args.toList ds gs before)
  (hrd : rdV (fun _ _ => none) [] W.heap das args.toList) (hd : DPure P f das (.bool true)) :
  Calls P f args W fun e W' => ∃ v, e = .returned v ∧ s.post enc P fn false fresh handsOn false W args v W' := by
 refine (hd.2.2 _ [] W args (by simp) hrd).mono fun e W' ⟨v, he, hu, hv⟩ => ⟨.bool true, ?_, law_post hl hall hr hub hvars hs hW hu⟩
 simp only [rd] at hv
 rw [he, hv]
end

theorem rows_form {α : Type} {f : α → List DVal} : ∀ {es : List (List DVal)}, (∀ e ∈ es, ∃ x, e = f x) → ∃ l : List α, es = l.map f
 | [], _ => ⟨[], rfl⟩
 | e :: es, h => by
  obtain ⟨x, rfl⟩ := h e (by simp)
  obtain ⟨l, rfl⟩ := rows_form (es := es) (f := f) (fun e he => h e (by simp [he]))
  exact ⟨x :: l, rfl⟩
end Go.Dm
end

section
set_option linter.unusedSectionVars false
/- What the statements share: shapes of the argument types. -/



set_option linter.unusedSimpArgs false
set_option linter.unusedVariables false
namespace Go.Proofs.YtdgocjbakjamaaaGreat
open Go Go.Dm
variable [DMode]
open Go.ChangeShapes Go.WideShapes Go.ChangeAt Go.RowKit

theorem own : ownKnob Tryz.prog.godebug = none := by kernel_rfl
theorem laidOut : laidOutB Tryz.prog = true := by kernel_rfl

end Go.Proofs.YtdgocjbakjamaaaGreat
end

section
set_option linter.unusedSectionVars false
/- What 'of bulk at most 1048576' says of sizes. -/

set_option linter.unusedSimpArgs false
set_option linter.unusedVariables false
namespace Go.Proofs.YtdgocjbakjamaaaGreat
open Go Go.Dm
variable [DMode]

mutual
def shLe (C : Nat) : Sh → Bool
 | .b => true
 | .i _ => true
 | .s => true
 | .sl _ bs c => decide (bs ≤ C) && shLeL C c
def shLeL (C : Nat) : List Sh → Bool
 | [] => true
 | x :: r => shLe C x && shLeL C r
end
theorem shLeL_append {C : Nat} : ∀ {a b : List Sh}, shLeL C (a ++ b) = (shLeL C a && shLeL C b)
 | [], b => by simp [shLeL]
 | x :: a, b => by simp [shLeL, shLeL_append (a := a), Bool.and_assoc]

section
variable {H : Type}
theorem bulk_pos (d : DataW H) : 1 ≤ Rows.uptoBulk d := by
 cases d with
 | lit l => cases l <;> simp only [Rows.uptoBulk] <;> omega
 | _ => simp only [Rows.uptoBulk] <;> omega
theorem bulk_len : ∀ l : List (DataW H), l.length ≤ Rows.uptoBulkAll l
 | [] => by simp
 | d :: r => by
  have := bulk_pos d
  have := bulk_len r
  simp only [Rows.uptoBulkAll, List.length_cons]
  omega
theorem weights_bulk {P : Program} {C : Nat} (hC : 1 ≤ C) : ∀ (n : Nat) (t : TypeId) (shs : List Sh) (d : DataW H), shOf P n t = some shs → shLeL C shs = true → ∀ x ∈ d.weights P t, x ≤ Rows.uptoBulk d * C
 | 0, t, shs, d, h, hl => by simp [shOf] at h
 | n + 1, t, shs, d, h, hl => by
  intro x hx
  have all : ∀ (e : TypeId) (c : List Sh), shOf P n e = some c → shLeL C c = true → ∀ (l : List (DataW H)), ∀ x ∈ DataW.weightsAll P e l, x ≤ Rows.uptoBulkAll l * C := by
   intro e c he hc l
   induction l with
   | nil => intro x hx; simp [DataW.weightsAll] at hx
   | cons d r ih =>
    intro x hx
    simp only [DataW.weightsAll, List.mem_append] at hx
    simp only [Rows.uptoBulkAll, Nat.add_mul]
    rcases hx with hx | hx
    ·have := weights_bulk hC n e c d he hc x hx; omega
    ·have := ih x hx; omega
  have each : ∀ (fs : List Field) (off e : Nat) (l : List Sh), shF (shOf P n) P.cellsOf fs off = some (l, e) → shLeL C l = true → ∀ (parts : List (DataW H)), ∀ x ∈ DataW.weightsEach P (fs.map (·.type)) parts, x ≤ Rows.uptoBulkAll parts * C := by
   intro fs
   induction fs with
   | nil => intro off e l _ _ parts x hx; simp [DataW.weightsEach] at hx
   | cons f fs ih =>
    intro off e l hf hc parts x hx
    cases parts with
    | nil => simp [DataW.weightsEach] at hx
    | cons d r =>
     simp only [shF] at hf
     split at hf
     ·split at hf
      ·rename_i c l' e' h4 h5
       simp only [Option.some.injEq, Prod.mk.injEq] at hf
       obtain ⟨rfl, rfl⟩ := hf
       rw [shLeL_append, Bool.and_eq_true] at hc
       simp only [List.map_cons, DataW.weightsEach, List.mem_append] at hx
       simp only [Rows.uptoBulkAll, Nat.add_mul]
       rcases hx with hx | hx
       ·have := weights_bulk hC n f.type c d h4 hc.1 x hx; omega
       ·have := ih _ _ _ h5 hc.2 r x hx; omega
      ·simp at hf
     ·simp at hf
  cases d with
  | lit l =>
   cases l <;> simp only [DataW.weights, List.mem_singleton, List.not_mem_nil] at hx
   subst hx
   simp only [Rows.uptoBulk]
   exact Nat.le_trans (Nat.le_succ _) (Nat.le_mul_of_pos_right _ hC)
  | nil => simp [DataW.weights] at hx
  | held a => simp [DataW.weights] at hx
  | iface a b => simp [DataW.weights] at hx
  | ptr d =>
   simp only [DataW.weights] at hx
   split at hx
   ·rename_i hu; simp [shOf, hu] at h
   ·simp at hx
  | map es =>
   simp only [DataW.weights] at hx
   split at hx
   ·rename_i hu; simp [shOf, hu] at h
   ·simp at hx
  | slice elems spare =>
   simp only [DataW.weights] at hx
   split at hx
   ·rename_i e hu
    simp only [shOf, hu] at h
    split at h
    rotate_left
    ·simp at h
    rw [Option.map_eq_some_iff] at h
    obtain ⟨c, hc, rfl⟩ := h
    simp only [shLeL, shLe, Bool.and_true, Bool.and_eq_true, decide_eq_true_eq] at hl
    simp only [Rows.uptoBulk, Nat.add_mul]
    simp only [List.mem_cons, List.mem_append] at hx
    rcases hx with rfl | hx | hx
    ·have h1 := bulk_len elems
     have h2 := bulk_len spare
     rw [Nat.add_mul]
     have g1 := Nat.mul_le_mul h1 hl.1
     have g2 := Nat.mul_le_mul h2 hl.1
     omega
    ·have := all e c hc hl.2 elems x hx; omega
    ·have := all e c hc hl.2 spare x hx; omega
   ·simp at hx
  | agg parts =>
   simp only [DataW.weights] at hx
   split at hx
   ·rename_i fs hu
    simp only [shOf, hu] at h
    split at h
    ·rename_i l e hf
     split at h
     ·simp only [Option.some.injEq] at h
      subst h
      simp only [Rows.uptoBulk, Nat.add_mul]
      have := each fs.toList 0 e l hf hl parts x hx
      omega
     ·simp at h
    ·simp at h
   ·rename_i hu; simp [shOf, hu] at h
   ·simp at hx
theorem weightsEach_bulk {P : Program} {C n : Nat} (hC : 1 ≤ C) : ∀ {ts : List TypeId} {shs : List (List Sh)} (ds : List (DataW H)), ts.map (shOf P n) = shs.map some → shs.all (shLeL C) = true → ∀ x ∈ DataW.weightsEach P ts ds, x ≤ Rows.uptoBulkAll ds * C
 | [], shs, ds, h, hl => by intro x hx; simp [DataW.weightsEach] at hx
 | t :: ts, shs, ds, h, hl => by
  intro x hx
  cases ds with
  | nil => simp [DataW.weightsEach] at hx
  | cons d r =>
   cases shs with
   | nil => simp at h
   | cons s ss =>
    simp only [List.map_cons, List.cons.injEq] at h
    simp only [List.all_cons, Bool.and_eq_true] at hl
    simp only [DataW.weightsEach, List.mem_append] at hx
    simp only [Rows.uptoBulkAll, Nat.add_mul]
    rcases hx with hx | hx
    ·have := weights_bulk hC n t s d h.1 hl.1 x hx; omega
    ·have := weightsEach_bulk hC r h.2 hl.2 x hx; omega
theorem small_le {P : Program} {C n : Nat} (hC : 1 ≤ C) {ts : List TypeId} {shs : List (List Sh)} {ds : List (DataW H)} (hk : Rows.uptoSmall H ds = true) (h : ts.map (shOf P n) = shs.map some) (hl : shs.all (shLeL C) = true) : ∀ x ∈ DataW.weightsEach P ts ds, x ≤ 1048576 * C := by
 intro x hx
 have h1 := weightsEach_bulk hC ds h hl x hx
 simp only [Rows.uptoSmall, decide_eq_true_eq] at hk
 exact Nat.le_trans h1 (Nat.mul_le_mul_right _ hk)
end
end Go.Proofs.YtdgocjbakjamaaaGreat
end

