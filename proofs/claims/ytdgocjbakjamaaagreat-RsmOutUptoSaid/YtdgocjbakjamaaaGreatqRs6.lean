/- Parts of a proof, laid together: BO0, EnBl, Lays, LayTs, EnY, EnSt, WB0, WJ0, WJ1, WJ2, WJ3, RT, WBp, WB3, EnSc, WB4, WB5, WB6, WB7, BN0, WB8, WB9, WB10, WB11, WB12, WB13, EnBo. -/
import Derived.Shelf.Strings.BuilderF
import Derived.Shelf.SlSortCmp.NoneTotal
import Derived.Shelf.SlGeneric
import Derived.Ground.SlsfProg
import Derived.Shelf.SortM.Plain
import Derived.Shelf.SortM.SortNone
import Derived.Shelf.Sort.Plain
import Derived.Shelf.Small.Strs
import Derived.Shelf.SlIter.Nil
import Derived.Shelf.SlIter.Sorted
import Derived.Ground.SlgmProg
import Derived.Ground.GgzProg
import Derived.Shelf.Spec.SlicesGrow
import Derived.Ground.Names8Prog
import Derived.Test.YtdgocjbakjamaaaGreatChecked
import Derived.Lib.Builder
import Derived.WalkKit
import Derived.BigCall
import Derived.Scope
import Derived.Test.YtdgocjbakjamaaaGreatqRs4
import Derived.Test.YtdgocjbakjamaaaGreatqRs5
set_option linter.unusedSimpArgs false
set_option linter.unusedVariables false
set_option linter.unusedSectionVars false
section
namespace Go.Proofs.YtdgocjbakjamaaaGreat
open Go Go.Dm
variable [DMode]
theorem isOcc_iff {x : Nd} : isOcc x = true ↔ x.k = 2 ∨ x.k = 3 := by unfold isOcc; simp
def rkN (l : List Nd) (p : Nat) : Nat := ((l.take p).filter isOcc).length
def lvs (l : List Nd) : List Nd := l.filter isOcc
theorem rkN_zero (l : List Nd) : rkN l 0 = 0 := by simp [rkN]
theorem rkN_all (l : List Nd) : rkN l l.length = (lvs l).length := by simp [rkN, lvs]
theorem rkN_succ {l : List Nd} {p : Nat} {x : Nd} (h : l[p]? = some x) : rkN l (p + 1) = rkN l p + (if isOcc x = true then 1 else 0) := by
 unfold rkN
 rw [List.take_add_one, h, List.filter_append]
 cases hx : isOcc x <;> simp [hx]
theorem rkN_mono (l : List Nd) {p q : Nat} (h : p ≤ q) : rkN l p ≤ rkN l q := by
 unfold rkN
 obtain ⟨d, rfl⟩ : ∃ d, q = p + d := ⟨q - p, by omega⟩
 rw [List.take_add, List.filter_append, List.length_append]
 omega
theorem rkN_lt {l : List Nd} {p q : Nat} {x : Nd} (h : l[p]? = some x) (hx : isOcc x = true) (hq : p < q) : rkN l p < rkN l q := by
 have h1 := rkN_succ h
 rw [if_pos hx] at h1
 have := rkN_mono l (show p + 1 ≤ q from hq)
 omega
theorem lvs_at {l : List Nd} {p : Nat} {x : Nd} (h : l[p]? = some x) (hx : isOcc x = true) : (lvs l)[rkN l p]? = some x := by
 obtain ⟨hp, rfl⟩ := List.getElem?_eq_some_iff.1 h
 unfold lvs rkN
 have h1 : l.filter isOcc = (l.take p).filter isOcc ++ (l[p] :: (l.drop (p + 1)).filter isOcc) := by
  have h2 : l = l.take p ++ l[p] :: l.drop (p + 1) := by rw [← List.drop_eq_getElem_cons hp, List.take_append_drop]
  have h3 := congrArg (List.filter isOcc) h2
  rw [List.filter_append, List.filter_cons, if_pos hx] at h3
  exact h3
 rw [h1, List.getElem?_append_right (Nat.le_refl _), Nat.sub_self]
 rfl
theorem occTo_len {l : List Nd} : ∀ {n : Nat}, n ≤ l.length → (occTo l n).length = rkN l n
 | 0, _ => by simp [occTo, rkN]
 | n + 1, h => by
  have hn : l[n]? = some (l[n]'(by omega)) := List.getElem?_eq_getElem (by omega)
  rw [occTo_succ hn, rkN_succ hn, List.length_append, occTo_len (by omega)]
  cases isOcc l[n] <;> simp
theorem occN_lvs (l : List Nd) : occN l = (lvs l).length := by unfold occN; rw [occTo_len (Nat.le_refl _), rkN_all]
def isPl (l : List Nd) (i : Nat) : Bool := match l[i]? with | some x => isOcc x | none => false
def plN (l : List Nd) (n : Nat) : List Nat := (List.range n).filter (isPl l)
theorem plN_zero (l : List Nd) : plN l 0 = [] := rfl
theorem plN_succ {l : List Nd} {n : Nat} {x : Nd} (h : l[n]? = some x) : plN l (n + 1) = plN l n ++ (if isOcc x = true then [n] else []) := by
 unfold plN
 rw [List.range_succ, List.filter_append]
 have : isPl l n = isOcc x := by unfold isPl; rw [h]
 cases hx : isOcc x <;> simp [this, hx]
theorem isPl_iff {l : List Nd} {i : Nat} : isPl l i = true ↔ ∃ x, l[i]? = some x ∧ isOcc x = true := by
 unfold isPl
 cases l[i]? <;> simp
theorem mem_plN {l : List Nd} {i : Nat} : i ∈ plN l l.length ↔ ∃ x, l[i]? = some x ∧ isOcc x = true := by
 unfold plN
 rw [List.mem_filter, List.mem_range, isPl_iff]
 exact ⟨fun h => h.2, fun h => ⟨(List.getElem?_eq_some_iff.1 h.choose_spec.1).1, h⟩⟩
theorem plN_len {l : List Nd} : ∀ {n : Nat}, n ≤ l.length → (plN l n).length = rkN l n
 | 0, _ => by simp [plN, rkN]
 | n + 1, h => by
  have hn : l[n]? = some (l[n]'(by omega)) := List.getElem?_eq_getElem (by omega)
  rw [plN_succ hn, rkN_succ hn, List.length_append, plN_len (by omega)]
  cases isOcc l[n] <;> simp
theorem plN_rank {l : List Nd} : ∀ {n j p : Nat}, n ≤ l.length → (plN l n)[j]? = some p → rkN l p = j
 | 0, j, p, _, h => by simp [plN] at h
 | n + 1, j, p, hn, h => by
  have hx : l[n]? = some (l[n]'(by omega)) := List.getElem?_eq_getElem (by omega)
  rw [plN_succ hx] at h
  have hl := plN_len (l := l) (n := n) (by omega)
  by_cases hj : j < (plN l n).length
  ·rw [List.getElem?_append_left hj] at h
   exact plN_rank (by omega) h
  ·rw [List.getElem?_append_right (by omega)] at h
   split at h
   ·have : j - (plN l n).length = 0 := by
     rcases Nat.eq_zero_or_pos (j - (plN l n).length) with h0 | h0
     ·exact h0
     ·rw [List.getElem?_eq_none (by simp; omega)] at h; simp at h
    rw [this] at h
    simp at h
    subst h
    omega
   ·simp at h
theorem plN_pw (l : List Nd) (n : Nat) : (plN l n).Pairwise (· < ·) := (List.pairwise_lt_range).filter _
def num (l : List Nd) (ah p : Nat) : Nat := ah + rkN l p + 1
def num2 (l : List Nd) (ah : Nat) (p : Nat × Nat) : Nat × Nat := (num l ah p.1, num l ah p.2)
def nd (l : List Nd) (p : Nat) : Nd := l.getD p ⟨0, ⟨#[]⟩, 0⟩
theorem nd_at {l : List Nd} {p : Nat} {x : Nd} (h : l[p]? = some x) : nd l p = x := by unfold nd; rw [List.getD_eq_getElem?_getD, h]; rfl
def prL : Nat → List RT → List (Nat × Nat)
 | _, [] => []
 | ah, t :: ts => (arT t 0).map (num2 (flat t) ah) ++ prL (ah + (lvs (flat t)).length) ts
def fiN : Nat → List RT → List Nat
 | _, [] => []
 | ah, t :: ts => (fiT t 0).map (num (flat t) ah) ++ fiN (ah + (lvs (flat t)).length) ts
def laN : Nat → List RT → List Nat
 | _, [] => []
 | ah, t :: ts => (laT t 0).map (num (flat t) ah) ++ laN (ah + (lvs (flat t)).length) ts
def lvL (ts : List RT) : List Nd := ts.flatMap fun t => lvs (flat t)
def syL (sy : Nd → Sym) (ts : List RT) : List Sym := (lvL ts).map sy
theorem lvL_snoc (ts : List RT) (t : RT) : lvL (ts ++ [t]) = lvL ts ++ lvs (flat t) := by simp [lvL]
theorem prL_snoc (t : RT) : ∀ (ts : List RT) (ah : Nat), prL ah (ts ++ [t]) = prL ah ts ++ (arT t 0).map (num2 (flat t) (ah + (lvL ts).length))
 | [], ah => by simp [prL, lvL]
 | u :: ts, ah => by
  rw [List.cons_append, prL, prL, prL_snoc t ts, List.append_assoc, Nat.add_assoc]
  simp [lvL]
theorem fiN_snoc (t : RT) : ∀ (ts : List RT) (ah : Nat), fiN ah (ts ++ [t]) = fiN ah ts ++ (fiT t 0).map (num (flat t) (ah + (lvL ts).length))
 | [], ah => by simp [fiN, lvL]
 | u :: ts, ah => by
  rw [List.cons_append, fiN, fiN, fiN_snoc t ts, List.append_assoc, Nat.add_assoc]
  simp [lvL]
theorem laN_snoc (t : RT) : ∀ (ts : List RT) (ah : Nat), laN ah (ts ++ [t]) = laN ah ts ++ (laT t 0).map (num (flat t) (ah + (lvL ts).length))
 | [], ah => by simp [laN, lvL]
 | u :: ts, ah => by
  rw [List.cons_append, laN, laN, laN_snoc t ts, List.append_assoc, Nat.add_assoc]
  simp [lvL]
def arcJ (S : List Sym) (p : Nat × Nat) : Arc := ⟨(p.1 : Int), S.getD (p.2 - 1) ⟨false, 0⟩, (p.2 : Int)⟩
def arcsP (sy : Nd → Sym) (ts : List RT) : List Arc := (prL 0 ts ++ (fiN 0 ts).map fun q => (0, q)).map (arcJ (syL sy ts))
def arcsQ (sy : Nd → Sym) (ah : Nat) (t : RT) (q : Nat) : List Arc :=
 (if bgT t 0 q then [⟨0, sy (nd (flat t) q), (num (flat t) ah q : Int)⟩] else []) ++
  (plN (flat t) (flat t).length).flatMap fun p => if foT t 0 p q then [⟨(num (flat t) ah p : Int), sy (nd (flat t) q), (num (flat t) ah q : Int)⟩] else []
def arcsR (sy : Nd → Sym) : Nat → List RT → List Arc
 | _, [] => []
 | ah, t :: ts => (plN (flat t) (flat t).length).flatMap (arcsQ sy ah t) ++ arcsR sy (ah + (lvs (flat t)).length) ts
theorem arcsR_snoc (sy : Nd → Sym) (t : RT) : ∀ (ts : List RT) (ah : Nat), arcsR sy ah (ts ++ [t]) = arcsR sy ah ts ++ (plN (flat t) (flat t).length).flatMap (arcsQ sy (ah + (lvL ts).length) t)
 | [], ah => by simp [arcsR, lvL]
 | u :: ts, ah => by
  rw [List.cons_append, arcsR, arcsR, arcsR_snoc sy t ts, List.append_assoc, Nat.add_assoc]
  simp [lvL]
theorem lf_of {l : List Nd} {q : Nat} (h : ∃ x, l[q]? = some x ∧ isOcc x = true) : Lf l 0 q := fun y _ hy => by
 obtain ⟨x, hx, hk⟩ := h
 rw [Nat.sub_zero, hx] at hy
 simp only [Option.some.injEq] at hy
 subst hy
 exact isOcc_iff.1 hk
theorem mem_arcs (sy : Nd → Sym) (S : List Sym) (z : Arc) : ∀ (ts : List RT) (ah : Nat), (∀ t ∈ ts, okT t = true) → S.drop ah = syL sy ts →
  (z ∈ (prL ah ts ++ (fiN ah ts).map fun q => (0, q)).map (arcJ S) ↔ z ∈ arcsR sy ah ts)
 | [], ah, _, _ => by simp [prL, fiN, arcsR]
 | t :: ts, ah, hok, hS => by
  have hS1 : syL sy (t :: ts) = (lvs (flat t)).map sy ++ syL sy ts := by simp [syL, lvL]
  rw [hS1] at hS
  have hS2 : S.drop (ah + (lvs (flat t)).length) = syL sy ts := by
   rw [← List.drop_drop, hS, List.drop_append_of_le_length (by simp)]
   rw [show (lvs (flat t)).length = ((lvs (flat t)).map sy).length by simp, List.drop_length, List.nil_append]
  have ih := mem_arcs sy S z ts (ah + (lvs (flat t)).length) (fun u hu => hok u (List.mem_cons_of_mem _ hu)) hS2
  obtain ⟨l, hl⟩ : ∃ l, l = flat t := ⟨_, rfl⟩
  have look : ∀ {q : Nat} {x : Nd}, l[q]? = some x → isOcc x = true → S.getD (num l ah q - 1) ⟨false, 0⟩ = sy x := by
   intro q x hx hk
   have h1 := lvs_at hx hk
   have h2 : (S.drop ah)[rkN l q]? = some (sy x) := by
    have hlt := (List.getElem?_eq_some_iff.1 h1).1
    rw [hS, ← hl, List.getElem?_append_left (by simpa using hlt), List.getElem?_map, h1]
    rfl
   rw [List.getElem?_drop] at h2
   unfold num
   rw [List.getD_eq_getElem?_getD, Nat.add_sub_cancel, h2]
   rfl
  have hokt := hok t List.mem_cons_self
  rw [← hl] at ih
  rw [prL, fiN, arcsR, ← hl]
  simp only [List.map_append, List.mem_append] at ih ⊢
  have here : (z ∈ ((arT t 0).map (num2 l ah)).map (arcJ S) ∨ z ∈ (((fiT t 0).map (num l ah)).map fun q => (0, q)).map (arcJ S)) ↔ z ∈ (plN l l.length).flatMap (arcsQ sy ah t) := by
   simp only [List.mem_flatMap, mem_plN]
   constructor
   ·rintro (h | h)
    ·simp only [List.mem_map] at h
     obtain ⟨_, ⟨⟨p, q⟩, hpq, rfl⟩, rfl⟩ := h
     obtain ⟨⟨x, hx, hxk⟩, ⟨y, hy, hyk⟩⟩ := arT_leaf t 0 p q hpq
     rw [Nat.sub_zero, ← hl] at hx hy
     refine ⟨q, ⟨y, hy, isOcc_iff.2 hyk⟩, ?_⟩
     unfold arcsQ
     rw [List.mem_append, List.mem_flatMap, ← hl]
     right
     refine ⟨p, mem_plN.2 ⟨x, hx, isOcc_iff.2 hxk⟩, ?_⟩
     rw [if_pos ((fo_iff t 0 p q hokt (hl ▸ lf_of ⟨x, hx, isOcc_iff.2 hxk⟩) (hl ▸ lf_of ⟨y, hy, isOcc_iff.2 hyk⟩)).1 hpq)]
     simp only [arcJ, num2, look hy (isOcc_iff.2 hyk), nd_at hy, List.mem_singleton]
    ·simp only [List.mem_map] at h
     obtain ⟨_, ⟨_, ⟨q, hq, rfl⟩, rfl⟩, rfl⟩ := h
     obtain ⟨y, hy, hyk⟩ := fiT_leaf t 0 q hq
     rw [Nat.sub_zero, ← hl] at hy
     refine ⟨q, ⟨y, hy, isOcc_iff.2 hyk⟩, ?_⟩
     unfold arcsQ
     rw [List.mem_append, ← hl]
     left
     rw [if_pos ((bg_iff t 0 q hokt (hl ▸ lf_of ⟨y, hy, isOcc_iff.2 hyk⟩)).1 hq)]
     simp only [arcJ, look hy (isOcc_iff.2 hyk), nd_at hy, List.mem_singleton]
     rfl
   ·rintro ⟨q, ⟨y, hy, hyk⟩, h⟩
    unfold arcsQ at h
    rw [List.mem_append, List.mem_flatMap, ← hl, nd_at hy] at h
    rcases h with h | ⟨p, hp, h⟩
    ·split at h
     ·rename_i hb
      right
      simp only [List.mem_map]
      refine ⟨_, ⟨_, ⟨q, (bg_iff t 0 q hokt (hl ▸ lf_of ⟨y, hy, hyk⟩)).2 hb, rfl⟩, rfl⟩, ?_⟩
      simp only [List.mem_singleton] at h
      rw [h]
      simp only [arcJ, look hy hyk]
      rfl
     ·simp at h
    ·split at h
     ·rename_i hb
      left
      obtain ⟨x, hx, hxk⟩ := mem_plN.1 hp
      simp only [List.mem_map]
      refine ⟨_, ⟨(p, q), (fo_iff t 0 p q hokt (hl ▸ lf_of ⟨x, hx, hxk⟩) (hl ▸ lf_of ⟨y, hy, hyk⟩)).2 hb, rfl⟩, ?_⟩
      simp only [List.mem_singleton] at h
      rw [h]
      simp only [arcJ, num2, look hy hyk]
     ·simp at h
  rw [← here, ← ih]
  constructor
  ·rintro ((h | h) | h | h)
   ·exact .inl (.inl h)
   ·exact .inr (.inl h)
   ·exact .inl (.inr h)
   ·exact .inr (.inr h)
  ·rintro ((h | h) | h | h)
   ·exact .inl (.inl h)
   ·exact .inr (.inl h)
   ·exact .inl (.inr h)
   ·exact .inr (.inr h)
theorem arcC_lex (x y : Arc) : arcC x y = lexC cmpI (lexC symC cmpI) (x.fr, x.sy, x.to) (y.fr, y.sy, y.to) := rfl
theorem ordArc : OrdC arcC := by
 have h := ordLex ordI (ordLex ordSym ordI)
 refine ⟨fun x y => ?_, fun x y => ?_, fun x y z => ?_⟩
 ·rw [arcC_lex, h.eq0]
  cases x; cases y
  simp only [_root_.Prod.mk.injEq, Arc.mk.injEq]
 ·rw [arcC_lex, arcC_lex]; exact h.anti _ _
 ·rw [arcC_lex, arcC_lex, arcC_lex]; exact h.trans _ _ _
theorem arcs_law (sy : Nd → Sym) (ts : List RT) (hok : ∀ t ∈ ts, okT t = true) : compL (fun x y => arcC x y == 0) (sortC arcC (arcsP sy ts)) = (arcsR sy 0 ts).foldl (insC arcC) [] := by
 rw [fold_ins ordArc]
 obtain ⟨h1, h2⟩ := compL_strict ordArc (sortC_sorted ordArc (arcsP sy ts))
 obtain ⟨h3, h4⟩ := compL_strict ordArc (sortC_sorted ordArc (arcsR sy 0 ts))
 refine strict_eq ordArc h1 h3 fun z => ?_
 rw [h2, h4, (sortC_perm _ _).mem_iff, (sortC_perm _ _).mem_iff]
 exact mem_arcs sy (syL sy ts) z ts 0 hok (by simp)
def finR : Nat → List RT → List Nat
 | _, [] => []
 | ah, t :: ts => ((plN (flat t) (flat t).length).filter (enT t 0)).map (num (flat t) ah) ++ finR (ah + (lvs (flat t)).length) ts
theorem finR_snoc (t : RT) : ∀ (ts : List RT) (ah : Nat), finR ah (ts ++ [t]) = finR ah ts ++ ((plN (flat t) (flat t).length).filter (enT t 0)).map (num (flat t) (ah + (lvL ts).length))
 | [], ah => by simp [finR, lvL]
 | u :: ts, ah => by
  rw [List.cons_append, finR, finR, finR_snoc t ts, List.append_assoc, Nat.add_assoc]
  simp [lvL]
theorem fin_perm : ∀ (ts : List RT) (ah : Nat), (∀ t ∈ ts, okT t = true) → (laN ah ts).Perm (finR ah ts)
 | [], ah, _ => by simp [laN, finR]
 | t :: ts, ah, hok => by
  rw [laN, finR]
  refine List.Perm.append (List.Perm.map _ ?_) (fin_perm ts _ fun u hu => hok u (List.mem_cons_of_mem _ hu))
  refine (List.perm_ext_iff_of_nodup (la_nodup t 0) (((plN_pw _ _).imp fun h => Nat.ne_of_lt h).filter _)).2 fun q => ?_
  have hokt := hok t List.mem_cons_self
  rw [List.mem_filter, mem_plN]
  constructor
  ·intro h
   obtain ⟨y, hy, hyk⟩ := laT_leaf t 0 q h
   rw [Nat.sub_zero] at hy
   have hq := (⟨y, hy, isOcc_iff.2 hyk⟩ : ∃ x, (flat t)[q]? = some x ∧ isOcc x = true)
   exact ⟨hq, (en_iff t 0 q hokt (lf_of hq)).1 h⟩
  ·rintro ⟨hq, h⟩
   exact (en_iff t 0 q hokt (lf_of hq)).2 h
theorem num_lt {l : List Nd} {ah p q : Nat} (hp : p ∈ plN l l.length) (h : p < q) : num l ah p < num l ah q := by
 obtain ⟨x, hx, hk⟩ := mem_plN.1 hp
 have := rkN_lt hx hk h
 unfold num
 omega
theorem finR_ok : ∀ (ts : List RT) (ah : Nat), (finR ah ts).Pairwise (· < ·) ∧ ∀ q ∈ finR ah ts, ah < q ∧ q ≤ ah + (lvL ts).length
 | [], ah => by simp [finR]
 | t :: ts, ah => by
  obtain ⟨h1, h2⟩ := finR_ok ts (ah + (lvs (flat t)).length)
  have hb : ∀ q ∈ ((plN (flat t) (flat t).length).filter (enT t 0)).map (num (flat t) ah), ah < q ∧ q ≤ ah + (lvs (flat t)).length := by
   intro q hq
   obtain ⟨p, hp, rfl⟩ := List.mem_map.1 hq
   obtain ⟨x, hx, hk⟩ := mem_plN.1 (List.mem_filter.1 hp).1
   have h3 := rkN_lt hx hk (List.getElem?_eq_some_iff.1 hx).1
   rw [rkN_all] at h3
   unfold num
   omega
  have hl : (lvL (t :: ts)).length = (lvs (flat t)).length + (lvL ts).length := by simp [lvL]
  rw [finR]
  refine ⟨List.pairwise_append.2 ⟨?_, h1, ?_⟩, ?_⟩
  ·rw [List.pairwise_map]
   refine List.Pairwise.imp_of_mem ?_ ((plN_pw _ _).filter _)
   intro a b ha _ hab
   exact num_lt (List.mem_filter.1 ha).1 hab
  ·intro a ha b hb'
   have := hb a ha
   have := h2 b hb'
   omega
  ·intro q hq
   rcases List.mem_append.1 hq with hq | hq
   ·have := hb q hq; omega
   ·have := h2 q hq; omega
theorem sort_fin {l l' : List Int} (hp : l.Perm l') (hs : l'.Pairwise (· < ·)) : l.mergeSort (fun x y => decide (x ≤ y)) = l' := by
 have tr : ∀ a b c : Int, decide (a ≤ b) = true → decide (b ≤ c) = true → decide (a ≤ c) = true := fun a b c h1 h2 => by simp only [decide_eq_true_eq] at *; omega
 have to : ∀ a b : Int, (decide (a ≤ b) || decide (b ≤ a)) = true := fun a b => by simp only [Bool.or_eq_true, decide_eq_true_eq]; omega
 refine List.Perm.eq_of_pairwise (le := fun a b => decide (a ≤ b) = true) (fun a b _ _ h1 h2 => ?_) (List.pairwise_mergeSort tr to l) (hs.imp fun h => by simp only [decide_eq_true_eq]; omega) ((List.mergeSort_perm l _).trans hp)
 simp only [decide_eq_true_eq] at h1 h2
 omega
def toI (n : Nat) : Int := (n : Int)
def finsR (ts : List RT) : List Int := (if anyE ts then [0] else []) ++ (finR 0 ts).map toI
theorem fins_law (ts : List RT) (hok : ∀ t ∈ ts, okT t = true) : ((laN 0 ts).map toI ++ (if anyE ts then [0] else [])).mergeSort (fun x y => decide (x ≤ y)) = finsR ts := by
 refine sort_fin ?_ ?_
 ·unfold finsR
  exact List.perm_append_comm.trans (List.Perm.append_left _ ((fin_perm ts 0 hok).map toI))
 ·obtain ⟨h1, h2⟩ := finR_ok ts 0
  have hm : ((finR 0 ts).map toI).Pairwise (· < ·) := by
   rw [List.pairwise_map]
   exact h1.imp fun h => by unfold toI; omega
  unfold finsR
  split
  ·refine List.pairwise_cons.2 ⟨fun q hq => ?_, hm⟩
   obtain ⟨p, hp, rfl⟩ := List.mem_map.1 hq
   have := h2 p hp
   unfold toI
   omega
  ·exact hm
end Go.Proofs.YtdgocjbakjamaaaGreat
end

section
namespace Go.Dm
variable [DMode]
open Go.Shelf Go.Proofs Go.RowKit
section
variable {P : Program} {B : Base} {s : DS} {a : Act} {w : World} {loc : Nat → Loc}
theorem Rel.newTyped {id n k bs : Nat} {cs : List DVal} {us : List Value} {ty : TypeId} {dst : Option Nat} (R : Rel B s a w loc) (hlim : lim B s ≤ n) (hmx : mxL cs ≤ n) (hdst : ∀ i, dst = some i → i < B.nt)
  (hus : rdV (cu s loc) (hm s loc B.M0) w.heap cs us) (hone : ∀ u ∈ us, u.oneCell' = true) (hk : cs.length = k) (hbs : bs ≤ 150000000000000) :
  Rel B ⟨putS s.slots dst (.rx id n k 0 0), upE s.own id n (.row ty k bs [cs])⟩ (a.put dst (.pointer (some ⟨w.heap.size, 0, none⟩))) (w.alloc (.cells us.toArray ty)) (upL loc id ⟨[w.heap.size], .slice (some ⟨w.heap.size, 0, none⟩) 1 1⟩) := by
 have hw := Upd.alloc' (hotOf s.own loc) w (.cells us.toArray ty)
 have hL : ∀ b, b ∈ (⟨[w.heap.size], .slice (some ⟨w.heap.size, 0, none⟩) 1 1⟩ : Loc).blks → b < (w.alloc (.cells us.toArray ty)).heap.size ∧ ((∃ e ∈ s.own, e.id = id ∧ b ∈ (loc id).blks) ∨ w.heap.size ≤ b) := by
  intro b hb
  simp only [List.mem_singleton] at hb
  subst hb
  exact ⟨by simp, .inr (Nat.le_refl _)⟩
 have W := R.weakUp (obj := .row ty k bs [cs]) hlim hw hL (.inl (Nat.le_refl _))
 have hul := rdV_length _ _ hus
 refine R.up hlim hdst hw (fun b hb _ => by simp only [World.alloc, Array.getElem?_push]; rw [if_neg (by omega)]) hL (.inl (Nat.le_refl _)) ?_ ?_
 ·refine ⟨by simpa using hbs, .inr ⟨w.heap.size, us.toArray, 1, rfl, rfl, heap_alloc_new w _, by simp, by unfold maxLen; omega, by simp; omega, ?_⟩⟩
  have := rdR_of (cur := curOf (upE s.own id n (.row ty k bs [cs])) (upL loc id ⟨[w.heap.size], .slice (some ⟨w.heap.size, 0, none⟩) 1 1⟩)) (M := hotOf (upE s.own id n (.row ty k bs [cs])) (upL loc id ⟨[w.heap.size], .slice (some ⟨w.heap.size, 0, none⟩) 1 1⟩) ++ B.M0) (H := (w.alloc (.cells us.toArray ty)).heap) k [cs] [us] [] rfl (by
   intro i c u hc hu
   cases i with
   | zero =>
    simp only [List.getElem?_cons_zero, Option.some.injEq] at hc hu
    subst hc; subst hu
    exact ⟨hk, rdV_weak W cs us hmx hus, hone⟩
   | succ i => simp at hc)
  simpa using this
 ·simp only [rd]
  intro l hl
  rw [curOf_up] at hl
  simp only [Option.some.injEq] at hl
  subst hl
  exact ⟨_, rfl, by simp⟩
theorem DW_allocT {id i k bs : Nat} {t ty : TypeId} {pos : String} {z : List DVal} {Q : Exit → DS → Prop} (hi : i < B.nt) (hz : tZero P t = some z) (hp : z.all (oneO []) = true) (hk : z.length = k) (hbs : bs ≤ 150000000000000)
  (h : ∀ r, lim B s ≤ r → Q .normal ⟨putS s.slots (some i) (.rx i r k 0 0), upE s.own i r (.row t k bs [z])⟩) : DW P B (.region id #[⟨some i, .alloc t, ty, pos, #[], none⟩] false) Q s := by
 intro a w loc R
 refine wpIn_region ?_
 rw [List.range_eq_range']
 show wpOpsIn _ _ _ _ _ [0] _ _
 simp only [wpOpsIn]
 have hw : Region.wanted (⟨some i, .alloc t, ty, pos, #[], none⟩ : Oper) (yielded #[⟨some i, .alloc t, ty, pos, #[], none⟩] a.tmps) = true := by simp [Region.wanted]
 simp only [List.getElem?_toArray, List.getElem?_cons_zero]
 rw [if_pos hw]
 obtain ⟨zv, hzr, rfl⟩ := tZero_ok (w := w) hz
 have hus : rdV (cu s loc) (hm s loc B.M0) w.heap (zv.cells.toList.map ofV1) zv.cells.toList := rdV_map_ofV1 _
 have hmx : mxL (zv.cells.toList.map ofV1) = 0 := by
  have h1 : ∀ v, mx (ofV1 v) = 0 := by
   intro v
   unfold ofV1
   split <;> (try split) <;> simp [mx]
  generalize zv.cells.toList = l
  induction l with
  | nil => simp [mxL]
  | cons v l ih => simp only [List.map_cons, mxL, h1, ih]; rfl
 have hone := oneO_all R.st (zv.cells.toList.map ofV1) zv.cells.toList (List.all_eq_true.2 fun d hd => oneO_nil (List.all_eq_true.1 hp d hd)) hus
 have R' := R.newTyped (id := i) (n := lim B s) (k := k) (bs := bs) (ty := t) (dst := some i) (Nat.le_refl _) (by omega) (fun j hj => by simp only [Option.some.injEq] at hj; omega) hus hone hk hbs
 have hrun : (execOp a.eval ⟨some i, .alloc t, ty, pos, #[], none⟩).run P w = .ok (.value (.pointer (some ⟨w.heap.size, 0, none⟩))) (w.alloc (.cells zv.cells.toList.toArray t)) := by
  simp [execOp, Instr.alloc, hzr, newVar, newRow]
 exact wp_val (fun c hc => by cases hc) hrun ⟨_, _, h _ (Nat.le_refl _), R'⟩
end
section
variable {P : Program} {ρ : Ren}
theorem lies_same {T n : Nat} (hd : P.depth ≠ 0) (hs : P.cellsOf T ≠ 0) (hn : 1 ≤ n) : liesAt P P.depth T n 0 T 1 = true := by
 obtain ⟨d, hd⟩ : ∃ d, P.depth = d + 1 := ⟨P.depth - 1, by omega⟩
 have h1 : sameLayout P (d + 1) T T = true := by simp [sameLayout]
 rw [hd]
 unfold liesAt
 rw [hd]
 unfold rowAt
 simp [hs, hn, h1]
theorem upd_freeze (w : World) (g n : Nat) : Upd [g] w (w.drew.freeze ⟨g, 0, none⟩ n) := by
 unfold World.freeze
 split
 ·exact Upd.drew _ w
 ·refine ⟨rfl, rfl, rfl, fun _ => Nat.le_succ _, by simp, fun b hb hne => ?_⟩
  simp only [List.mem_singleton] at hne
  simp only [Array.getElem?_modify]
  rw [if_neg (fun h => hne h.symm)]
  rfl
set_option maxHeartbeats 1000000 in
set_option maxRecDepth 100000 in
theorem builderString_some (L : Lays.n169 P ρ) (X : Builder.Extra P ρ) (b g cap : Nat) (p : Value) (cs cur : Array Value) (l : List UInt8) (w : World) (h0 : l ≠ []) (hb : w.heap[b]? = some (.cells cs (ρ.t 72) (0, 0))) (hb1 : cs[1]? = some (.slice (some ⟨g, 0, none⟩) l.length cap))
  (hg : w.heap[g]? = some (.cells cur (ρ.t 5) (0, 0))) (hnc : l.length ≤ cap) (hcm : cap ≤ maxLen) (hcs : cur.size = cap) (htake : cur.toList.take l.length = Lib.byteCells l) :
  Calls P (ρ.f 169) #[.pointer (some ⟨b, 0, none⟩)] w fun e w' => e = .returned (.string ⟨l.toArray⟩) ∧ Upd [g] w w' ∧ w' = w.drew.freeze ⟨g, 0, none⟩ l.length := by
 have hl0 : l.length ≠ 0 := by simpa using h0
 have c1 : w.drew.cell? ⟨b, 1, none⟩ = some (.slice (some ⟨g, 0, none⟩) l.length cap) := by
  have : w.drew.heap[b]? = some (.cells cs (ρ.t 72) (0, 0)) := hb
  rw [Lib.cell_of_heap this]; exact hb1
 have hSD : (Builtin.unsafeSliceData_ #[(ρ.t 37)] (ρ.t 127) #[.slice (some ⟨g, 0, none⟩) l.length cap]).run P w.drew = .ok (.pointer (some ⟨g, 0, none⟩)) w.drew :=
  Lib.run_unsafeSliceData_row _ _ _ _ _ _ (by omega)
 have hUS : (Builtin.unsafeString_ #[(ρ.t 127), (ρ.t 3)] (ρ.t 9) #[.pointer (some ⟨g, 0, none⟩), .int .i64 l.length]).run P w.drew = .ok (.string ⟨l.toArray⟩) (w.drew.freeze ⟨g, 0, none⟩ l.length) := by
  refine Lib.run_unsafeString_row w.drew (ρ.t 127) (ρ.t 3) (ρ.t 9) (ρ.t 5) L.t127 X.cellsByte g cur.size (by have hg' : w.drew.heap[g]? = some (.cells cur (ρ.t 5) (0, 0)) := hg; simp [World.shape?, hg']) l h0 (by omega) (by unfold maxLen at hcm; omega) ?_
  intro j x hx
  have hg' : w.drew.heap[g]? = some (.cells cur (ρ.t 5) (0, 0)) := hg
  have hadd : (⟨g, 0, none⟩ : Addr).add j = ⟨g, j, none⟩ := by unfold Addr.add; split <;> simp_all
  rw [hadd, Lib.cell_of_heap hg']
  have hj : j < l.length := (List.getElem?_eq_some_iff.1 hx).1
  have h2 : (Lib.byteCells l)[j]? = some (.int .u8 x.toNat) := by simp [Lib.byteCells, hx]
  rw [← htake, List.getElem?_take_of_lt hj] at h2
  simpa using h2
 have mixed := L.mixed
 have t72 := L.t72; have a72 := L.a72; have z72 := L.z72; have v72 := L.v72; have u72 := run_underlying L.t72
 have t70 := L.t70; have a70 := L.a70; have z70 := L.z70; have v70 := L.v70; have u70 := run_underlying L.t70
 have t37 := L.t37; have a37 := L.a37; have z37 := L.z37; have v37 := L.v37; have u37 := run_underlying L.t37
 have t127 := L.t127; have a127 := L.a127; have z127 := L.z127; have v127 := L.v127; have u127 := run_underlying L.t127
 have t3 := L.t3; have a3 := L.a3; have z3 := L.z3; have v3 := L.v3; have u3 := run_underlying L.t3
 have t9 := L.t9; have a9 := L.a9; have z9 := L.z9; have v9 := L.v9; have u9 := run_underlying L.t9
 have t5 := X.t5; have a5 := X.a5; have z5 := X.z5; have v5 := X.v5; have u5 := run_underlying X.t5
 go_enter L.f169, Body.n169_ntmps ρ
 go_wp2
 go_region_o
 all_goals (go_wp2; go_ret; exact ⟨rfl, upd_freeze w g l.length, rfl⟩)
theorem bld_cells {cur : Cur} {M : List Nat} {H : Array Obj} {d0 d1 : DVal} {arr : Array Value} (h : rdR cur M H 2 [[d0, d1]] arr 0) : ∃ v0 v1 rest, arr = (v0 :: v1 :: rest).toArray ∧ rd cur M H d0 v0 ∧ rd cur M H d1 v1 := by
 obtain ⟨rows, r1, r2, r3, r4⟩ := rdR_vals 2 _ arr 0 h
 match rows, r1 with
 | [us], _ =>
  obtain ⟨g1, g2, g3⟩ := r3 0 _ _ rfl rfl
  simp only [rdV] at g2
  obtain ⟨v0, r, rfl, h0, v1, r', rfl, h1, rfl⟩ := g2
  have e0 := (r4 0 v0 (by simp)).1
  have e1 := (r4 1 v1 (by simp)).1
  obtain ⟨l⟩ := arr
  match l, e0, e1 with
  | x :: y :: rest, e0, e1 =>
   simp at e0 e1
   subst e0; subst e1
   exact ⟨x, y, rest, rfl, h0, h1⟩
theorem bld_rdR {cur : Cur} {M : List Nat} {H : Array Obj} {d0 d1 : DVal} {v0 v1 : Value} {rest : List Value} (h0 : rd cur M H d0 v0) (h1 : rd cur M H d1 v1) (o0 : v0.oneCell' = true) (o1 : v1.oneCell' = true) : rdR cur M H 2 [[d0, d1]] (v0 :: v1 :: rest).toArray 0 := by
 have := rdR_of (cur := cur) (M := M) (H := H) 2 [[d0, d1]] [[v0, v1]] rest rfl (by
  intro i c u hc hu
  cases i with
  | zero =>
   simp only [List.getElem?_cons_zero, Option.some.injEq] at hc hu
   subst hc; subst hu
   exact ⟨rfl, ⟨v0, _, rfl, h0, v1, _, rfl, h1, rfl⟩, by simp [o0, o1]⟩
  | succ i => simp at hc)
 simpa using this
theorem copyCheck_spec1 {g T : Nat} (hd : P.depth ≠ 0) (hs : P.cellsOf T = 2) (hE : Enters P g) (bs : Nat)
  (hcc : ∀ (b n : Nat) (w : World), w.cell? ⟨b, 0, none⟩ = some (.pointer none) → w.shape? b = some (T, n) → 0 < n → liesAt P P.depth T (n / P.cellsOf T) 0 T 1 = true → w.frozen? ⟨b, 0, none⟩ = false →
   Calls P g #[.pointer (some ⟨b, 0, none⟩)] w fun e w' => e = .returned (.tuple #[]) ∧ w' = w.setCell ⟨b, 0, none⟩ (.pointer (some ⟨b, 0, none⟩))) :
  DSpec P (.func g) [.rx 0 0 2 0 0] [⟨0, 0, .row T 2 bs [[.nilp, .nilsl]]⟩] (.tup []) [⟨0, 0, .row T 2 bs [[.rx 0 0 2 0 0, .nilsl]]⟩] := by
 refine ⟨by simp, hE, fun M w loc vs S hvs => ?_⟩
 have hk := S.ok _ (List.mem_singleton.2 rfl)
 obtain ⟨hbs, hk⟩ := hk
 rcases hk with ⟨h, _⟩ | ⟨b, arr, cap, h1, h2, h3, h4, h5, h6, h7⟩
 ·simp at h
 ·obtain ⟨v0, v1, rest, rfl, g0, g1⟩ := bld_cells h7
  simp only [rd] at g0 g1
  subst g0; subst g1
  have hcur : curOf [(⟨0, 0, .row T 2 bs [[.nilp, .nilsl]]⟩ : Ent)] loc 0 0 = some (loc 0) := by simp [curOf, findE]
  simp only [rdV, rd] at hvs
  obtain ⟨pv, r, hvs, hp, rfl⟩ := hvs
  obtain ⟨b', hb', rfl⟩ := hp _ hcur
  simp only at h1 h2
  rw [h1] at hb'
  simp only [List.cons.injEq, and_true] at hb'
  subst hb'
  have hvs' : vs = #[.pointer (some ⟨b, 0, none⟩)] := by apply Array.ext'; simpa using hvs
  subst hvs'
  have hsz : 2 ≤ (Array.size (Value.pointer none :: Value.slice none 0 0 :: rest).toArray) := by simp
  refine ⟨hE, (hcc b (rest.length + 2) w (by rw [Lib.cell_of_heap h3]; rfl) (by simp [World.shape?, h3]) (by omega) (lies_same hd (by omega) (by rw [hs]; omega)) (Lib.frozen_of_heap h3 0)).mono ?_⟩
  rintro e w' ⟨rfl, rfl⟩
  refine ⟨_, rfl, loc, ?_, ?_, ?_, ?_, ?_⟩
  ·have hset := setCell_eq_setRow w b 0 _ _ _ (.pointer (some ⟨b, 0, none⟩)) h3
   rw [hset]
   refine ⟨S.nd, S.bl, S.ap, fun q hq => by have := S.lt q hq; simpa using this, fun e he => ?_⟩
   simp only [List.mem_singleton] at he
   subst he
   refine ⟨hbs, .inr ⟨b, _, cap, h1, h2, setRow_heap w b _ _ _ (0, 0) h3, h4, h5, by simpa using h6, ?_⟩⟩
   have := bld_rdR (cur := curOf [(⟨0, 0, .row T 2 bs [[.rx 0 0 2 0 0, .nilsl]]⟩ : Ent)] loc) (M := hotOf [(⟨0, 0, .row T 2 bs [[.rx 0 0 2 0 0, .nilsl]]⟩ : Ent)] loc ++ M) (H := (w.setRow b ((Value.pointer none :: Value.slice none 0 0 :: rest).toArray.setIfInBounds 0 (.pointer (some ⟨b, 0, none⟩)))).heap)
    (d0 := .rx 0 0 2 0 0) (d1 := .nilsl) (v0 := .pointer (some ⟨b, 0, none⟩)) (v1 := .slice none 0 0) (rest := rest) (by
     simp only [rd]
     intro l hl
     have hc2 : curOf [(⟨0, 0, .row T 2 bs [[.rx 0 0 2 0 0, .nilsl]]⟩ : Ent)] loc 0 0 = some (loc 0) := by simp [curOf, findE]
     rw [hc2] at hl
     simp only [Option.some.injEq] at hl
     subst hl
     exact ⟨b, h1, by simp⟩) (by simp [rd]) rfl rfl
   simpa using this
  ·refine ⟨rfl, rfl, rfl, fun _ => Nat.le_refl _, by simp [World.setCell], fun q hq hne => ?_⟩
   have hqb : b ≠ q := by
    intro h
    subst h
    exact hne (by simp [hotOf, h1])
   simp [World.setCell, Array.getElem?_modify, hqb]
  ·intro q hq
   exact .inl hq
  ·intro e he _
   simp only [List.mem_singleton] at he
   subst he
   exact hcur
  ·simp [rd, rdV]
theorem copyCheck_spec2 {g T : Nat} (hE : Enters P g) (bs : Nat) (q : DVal) (rest : List Ent) (hr : ∀ e ∈ rest, e.r = 0)
  (hcc : ∀ (b : Nat) (w : World), w.cell? ⟨b, 0, none⟩ = some (.pointer (some ⟨b, 0, none⟩)) → Calls P g #[.pointer (some ⟨b, 0, none⟩)] w fun e w' => e = .returned (.tuple #[]) ∧ w' = w) :
  DSpec P (.func g) [.rx 0 0 2 0 0] (⟨0, 0, .row T 2 bs [[.rx 0 0 2 0 0, q]]⟩ :: rest) (.tup []) (⟨0, 0, .row T 2 bs [[.rx 0 0 2 0 0, q]]⟩ :: rest) := by
 refine ⟨fun e he => by rcases List.mem_cons.1 he with rfl | he <;> simp_all, hE, fun M w loc vs S hvs => ?_⟩
 have hk := S.ok _ List.mem_cons_self
 obtain ⟨hbs, hk⟩ := hk
 rcases hk with ⟨h, _⟩ | ⟨b, arr, cap, h1, h2, h3, h4, h5, h6, h7⟩
 ·simp at h
 ·obtain ⟨v0, v1, rs, rfl, g0, g1⟩ := bld_cells h7
  simp only [rd] at g0
  have hcur : curOf ((⟨0, 0, .row T 2 bs [[.rx 0 0 2 0 0, q]]⟩ : Ent) :: rest) loc 0 0 = some (loc 0) := by simp [curOf, findE]
  obtain ⟨b0, hb0, rfl⟩ := g0 _ hcur
  simp only [rdV, rd] at hvs
  obtain ⟨pv, r, hvs, hp, rfl⟩ := hvs
  obtain ⟨b', hb', rfl⟩ := hp _ hcur
  simp only at h1 h2
  rw [h1] at hb' hb0
  simp only [List.cons.injEq, and_true] at hb' hb0
  subst hb'; subst hb0
  have hvs' : vs = #[.pointer (some ⟨b, 0, none⟩)] := by apply Array.ext'; simpa using hvs
  subst hvs'
  refine ⟨hE, (hcc b w (by rw [Lib.cell_of_heap h3]; rfl)).mono ?_⟩
  rintro e w' ⟨rfl, rfl⟩
  refine ⟨_, rfl, loc, S, Upd.refl _ _, fun q hq => .inl hq, fun e he _ => curOf_self S.nd he, by simp [rd, rdV]⟩
theorem builderString_spec2 (L : Lays.n169 P ρ) (X : Builder.Extra P ρ) (hE : Enters P (ρ.f 169)) (bs : Nat) (x : ByteArray) (hx : x.size ≠ 0) :
  DSpec P (.func (ρ.f 169)) [.rx 0 0 2 0 0] [⟨0, 0, .row (ρ.t 72) 2 bs [[.rx 0 0 2 0 0, .osl 1 0]]⟩, ⟨1, 0, .row (ρ.t 5) 1 1 (bytesD x)⟩] (.str x) [] := by
 refine ⟨by simp, hE, fun M w loc vs S hvs => ?_⟩
 have hk := S.ok _ List.mem_cons_self
 have hk2 := S.ok _ (List.mem_cons_of_mem _ List.mem_cons_self)
 obtain ⟨hbs, hk⟩ := hk
 obtain ⟨hbs2, hk2⟩ := hk2
 rcases hk with ⟨h, _⟩ | ⟨b, arr, cap, h1, h2, h3, h4, h5, h6, h7⟩
 ·simp at h
 rcases hk2 with ⟨h, _⟩ | ⟨g, cur, cap2, k1, k2, k3, k4, k5, k6, k7⟩
 ·have := congrArg List.length h
  rw [bytesD_len] at this
  exact absurd this hx
 ·obtain ⟨v0, v1, rest, rfl, g0, g1⟩ := bld_cells h7
  simp only [rd] at g0 g1
  have hcur : curOf [(⟨0, 0, .row (ρ.t 72) 2 bs [[.rx 0 0 2 0 0, .osl 1 0]]⟩ : Ent), ⟨1, 0, .row (ρ.t 5) 1 1 (bytesD x)⟩] loc 0 0 = some (loc 0) := by simp [curOf, findE]
  have hcur1 : curOf [(⟨0, 0, .row (ρ.t 72) 2 bs [[.rx 0 0 2 0 0, .osl 1 0]]⟩ : Ent), ⟨1, 0, .row (ρ.t 5) 1 1 (bytesD x)⟩] loc 1 0 = some (loc 1) := by simp [curOf, findE]
  have hv1 := g1 _ hcur1
  simp only at k1 k2
  rw [k2, bytesD_len] at hv1
  subst hv1
  simp only [rdV, rd] at hvs
  obtain ⟨pv, r, hvs, hp, rfl⟩ := hvs
  obtain ⟨b', hb', rfl⟩ := hp _ hcur
  simp only at h1 h2
  rw [h1] at hb'
  simp only [List.cons.injEq, and_true] at hb'
  subst hb'
  have hvs' : vs = #[.pointer (some ⟨b, 0, none⟩)] := by apply Array.ext'; simpa using hvs
  subst hvs'
  have hxl : x.data.toList.length = x.size := rfl
  obtain ⟨rows, r1, r2, r3, r4⟩ := rdR_vals 1 _ cur 0 k7
  have hfl : rows.flatten = Lib.byteCells x.data.toList := by
   have : ∀ (bl : List UInt8) (rows : List (List Value)), rows.length = bl.length → (∀ (i : Nat) (cs : List DVal) (us : List Value), (bl.map fun b => [DVal.int .u8 (b.toNat : Int)])[i]? = some cs → rows[i]? = some us → cs.length = 1 ∧ rdV (curOf [(⟨0, 0, .row (ρ.t 72) 2 bs [[.rx 0 0 2 0 0, .osl 1 0]]⟩ : Ent), ⟨1, 0, .row (ρ.t 5) 1 1 (bytesD x)⟩] loc) (hotOf [(⟨0, 0, .row (ρ.t 72) 2 bs [[.rx 0 0 2 0 0, .osl 1 0]]⟩ : Ent), ⟨1, 0, .row (ρ.t 5) 1 1 (bytesD x)⟩] loc ++ M) w.heap cs us ∧ ∀ u ∈ us, u.oneCell' = true) → rows.flatten = Lib.byteCells bl := by
    intro bl
    induction bl with
    | nil => intro rows hl _; rw [List.eq_nil_of_length_eq_zero hl]; rfl
    | cons y bl ih =>
     intro rows hl h
     match rows, hl with
     | us :: rows, hl =>
      obtain ⟨_, h1, _⟩ := h 0 _ _ rfl rfl
      simp only [rdV, rd] at h1
      obtain ⟨v, r, rfl, ⟨rfl, _⟩, rfl⟩ := h1
      have := ih rows (by simpa using hl) fun i cs us hc hu => h (i + 1) cs us (by simpa using hc) (by simpa using hu)
      simp [this, Lib.byteCells]
   exact this x.data.toList rows (by rw [r1, bytesD_len]; rfl) r3
  rw [bytesD_len] at k4 r2
  have hcsz : cur.size = cap2 := by omega
  have ht := take_flat r2 r4 (by omega)
  rw [hfl, Nat.mul_one] at ht
  refine ⟨hE, (builderString_some L X b g cap2 v0 _ cur x.data.toList w (fun h => hx (by rw [← hxl, h]; rfl)) h3 rfl k3 k4 k5 hcsz ht).mono ?_⟩
  rintro e w' ⟨rfl, hu, _⟩
  refine ⟨_, rfl, loc, ⟨by simp, by simp [hotOf], by simp [hotOf], fun q hq => ?_, by simp⟩, ?_, by simp [hotOf], by simp, ?_⟩
  ·have := S.lt q (List.mem_append_right _ (by simpa [hotOf] using hq))
   exact Nat.lt_of_lt_of_le this hu.size
  ·refine ⟨hu.os, hu.tape, hu.output, hu.drawn, hu.size, fun q hq hne => hu.blk q hq fun hm => hne ?_⟩
   simp only [List.mem_singleton] at hm
   subst hm
   simp [hotOf, k1]
  ·simp only [rd]
   exact ⟨trivial, by omega⟩
theorem builderString_spec2k (L : Lays.n169 P ρ) (X : Builder.Extra P ρ) (hE : Enters P (ρ.f 169)) (bs : Nat) (x : ByteArray) (hx : x.size ≠ 0) :
  DSpec P (.func (ρ.f 169)) [.rx 0 0 2 0 0] [⟨0, 0, .row (ρ.t 72) 2 bs [[.rx 0 0 2 0 0, .osl 1 0]]⟩, ⟨1, 0, .row (ρ.t 5) 1 1 (bytesD x)⟩] (.str x) [⟨0, 0, .row (ρ.t 72) 2 bs [[.rx 0 0 2 0 0, .sl 1 1 (bytesD x)]]⟩] := by
 refine ⟨by simp, hE, fun M w loc vs S hvs => ?_⟩
 have hk := S.ok _ List.mem_cons_self
 have hk2 := S.ok _ (List.mem_cons_of_mem _ List.mem_cons_self)
 obtain ⟨hbs, hk⟩ := hk
 obtain ⟨hbs2, hk2⟩ := hk2
 rcases hk with ⟨h, _⟩ | ⟨b, arr, cap, h1, h2, h3, h4, h5, h6, h7⟩
 ·simp at h
 rcases hk2 with ⟨h, _⟩ | ⟨g, cur, cap2, k1, k2, k3, k4, k5, k6, k7⟩
 ·have := congrArg List.length h
  rw [bytesD_len] at this
  exact absurd this hx
 ·obtain ⟨v0, v1, rest, rfl, g0, g1⟩ := bld_cells h7
  simp only [rd] at g0 g1
  have hcur : curOf [(⟨0, 0, .row (ρ.t 72) 2 bs [[.rx 0 0 2 0 0, .osl 1 0]]⟩ : Ent), ⟨1, 0, .row (ρ.t 5) 1 1 (bytesD x)⟩] loc 0 0 = some (loc 0) := by simp [curOf, findE]
  have hcur1 : curOf [(⟨0, 0, .row (ρ.t 72) 2 bs [[.rx 0 0 2 0 0, .osl 1 0]]⟩ : Ent), ⟨1, 0, .row (ρ.t 5) 1 1 (bytesD x)⟩] loc 1 0 = some (loc 1) := by simp [curOf, findE]
  have hv1 := g1 _ hcur1
  simp only at k1 k2
  rw [k2, bytesD_len] at hv1
  subst hv1
  simp only [rdV, rd] at hvs
  obtain ⟨pv, r, hvs, hp, rfl⟩ := hvs
  obtain ⟨b', hb', rfl⟩ := hp _ hcur
  simp only at h1 h2
  rw [h1] at hb'
  simp only [List.cons.injEq, and_true] at hb'
  subst hb'
  have hvs' : vs = #[.pointer (some ⟨b, 0, none⟩)] := by apply Array.ext'; simpa using hvs
  subst hvs'
  have hxl : x.data.toList.length = x.size := rfl
  obtain ⟨rows, r1, r2, r3, r4⟩ := rdR_vals 1 _ cur 0 k7
  have hfl : rows.flatten = Lib.byteCells x.data.toList := by
   have : ∀ (bl : List UInt8) (rows : List (List Value)), rows.length = bl.length → (∀ (i : Nat) (cs : List DVal) (us : List Value), (bl.map fun b => [DVal.int .u8 (b.toNat : Int)])[i]? = some cs → rows[i]? = some us → cs.length = 1 ∧ rdV (curOf [(⟨0, 0, .row (ρ.t 72) 2 bs [[.rx 0 0 2 0 0, .osl 1 0]]⟩ : Ent), ⟨1, 0, .row (ρ.t 5) 1 1 (bytesD x)⟩] loc) (hotOf [(⟨0, 0, .row (ρ.t 72) 2 bs [[.rx 0 0 2 0 0, .osl 1 0]]⟩ : Ent), ⟨1, 0, .row (ρ.t 5) 1 1 (bytesD x)⟩] loc ++ M) w.heap cs us ∧ ∀ u ∈ us, u.oneCell' = true) → rows.flatten = Lib.byteCells bl := by
    intro bl
    induction bl with
    | nil => intro rows hl _; rw [List.eq_nil_of_length_eq_zero hl]; rfl
    | cons y bl ih =>
     intro rows hl h
     match rows, hl with
     | us :: rows, hl =>
      obtain ⟨_, h1, _⟩ := h 0 _ _ rfl rfl
      simp only [rdV, rd] at h1
      obtain ⟨v, r, rfl, ⟨rfl, _⟩, rfl⟩ := h1
      have := ih rows (by simpa using hl) fun i cs us hc hu => h (i + 1) cs us (by simpa using hc) (by simpa using hu)
      simp [this, Lib.byteCells]
   exact this x.data.toList rows (by rw [r1, bytesD_len]; rfl) r3
  rw [bytesD_len] at k4 r2
  have hcsz : cur.size = cap2 := by omega
  have ht := take_flat r2 r4 (by omega)
  rw [hfl, Nat.mul_one] at ht
  refine ⟨hE, (builderString_some L X b g cap2 v0 _ cur x.data.toList w (fun h => hx (by rw [← hxl, h]; rfl)) h3 rfl k3 k4 k5 hcsz ht).mono ?_⟩
  rintro e w' ⟨rfl, hu, hw⟩
  have hv0 := g0 _ hcur
  obtain ⟨b2, hb2, rfl⟩ := hv0
  rw [h1] at hb2
  simp only [List.cons.injEq, and_true] at hb2
  subst hb2
  have hbl := S.bl
  have hap := S.ap
  simp only [hotOf, List.flatMap_cons, List.flatMap_nil, h1, k1, List.append_nil, List.cons_append, List.nil_append, List.nodup_cons, List.mem_singleton] at hbl
  have hbg : b ≠ g := hbl.1
  have hbM : b ∉ M := hap b (by simp [hotOf, h1])
  have hgM : g ∉ M := hap g (by simp [hotOf, k1])
  have hblt := (Array.getElem?_eq_some_iff.1 h3).1
  have hglt := (Array.getElem?_eq_some_iff.1 k3).1
  have hH : hotOf [(⟨0, 0, .row (ρ.t 72) 2 bs [[.rx 0 0 2 0 0, .sl 1 1 (bytesD x)]]⟩ : Ent)] loc = [b] := by simp [hotOf, h1]
  have hhb : w'.heap[b]? = some (.cells (Value.pointer (some ⟨b, 0 * 2 + 0, none⟩) :: .slice (some ⟨g, 0, none⟩) x.size cap2 :: rest).toArray (ρ.t 72) (0, 0)) := by rw [hu.blk b hblt (by simpa using hbg)]; exact h3
  have hhg : ∃ fz, w'.heap[g]? = some (.cells cur (ρ.t 5) fz) := by
   rw [hw]
   unfold World.freeze
   rw [if_neg (by rw [hxl]; exact hx)]
   have : w.drew.heap[g]? = some (.cells cur (ρ.t 5) (0, 0)) := k3
   simp only [Array.getElem?_modify, if_true, this]
   exact ⟨_, rfl⟩
  have W : Weak (curOf [(⟨0, 0, .row (ρ.t 72) 2 bs [[.rx 0 0 2 0 0, .osl 1 0]]⟩ : Ent), ⟨1, 0, .row (ρ.t 5) 1 1 (bytesD x)⟩] loc) (curOf [(⟨0, 0, .row (ρ.t 72) 2 bs [[.rx 0 0 2 0 0, .sl 1 1 (bytesD x)]]⟩ : Ent)] loc) (hotOf [(⟨0, 0, .row (ρ.t 72) 2 bs [[.rx 0 0 2 0 0, .osl 1 0]]⟩ : Ent), ⟨1, 0, .row (ρ.t 5) 1 1 (bytesD x)⟩] loc ++ M) ([b] ++ M) w.heap w'.heap 0 := by
   refine ⟨fun id r l hr _ => absurd hr (Nat.not_lt_zero _), fun q o hq _ ho => ?_, fun q o hq _ _ hm => hq ?_⟩
   ·rw [hu.blk q (Array.getElem?_eq_some_iff.1 ho).1 (fun hm => hq ?_)]
    ·exact ho
    ·simp only [List.mem_singleton] at hm
     subst hm
     simp [hotOf, k1]
   ·rcases List.mem_append.1 hm with hm | hm
    ·simp only [List.mem_singleton] at hm
     subst hm
     simp [hotOf, h1]
    ·exact List.mem_append_right _ hm
  refine ⟨_, rfl, loc, ⟨by simp, by rw [hH]; simp, fun q hq => ?_, fun q hq => ?_, ?_⟩, ?_, fun q hq => ?_, ?_, ?_⟩
  ·rw [hH] at hq; simp only [List.mem_singleton] at hq; subst hq; exact hbM
  ·rw [hH] at hq
   refine Nat.lt_of_lt_of_le (S.lt q ?_) hu.size
   rcases List.mem_append.1 hq with hq | hq
   ·simp only [List.mem_singleton] at hq; subst hq; simp [hotOf, h1]
   ·exact List.mem_append_right _ hq
  ·intro e he
   simp only [List.mem_singleton] at he
   subst he
   rw [hH]
   refine ⟨by simpa using hbs, .inr ⟨b, _, cap, h1, by simpa using h2, hhb, by simpa using h4, h5, h6, bld_rdR ?_ ?_ rfl rfl⟩⟩
   ·simp only [rd]
    intro l hl
    have : curOf [(⟨0, 0, .row (ρ.t 72) 2 bs [[.rx 0 0 2 0 0, .sl 1 1 (bytesD x)]]⟩ : Ent)] loc 0 0 = some (loc 0) := by simp [curOf, findE]
    rw [this] at hl
    simp only [Option.some.injEq] at hl
    subst hl
    exact ⟨b, h1, rfl⟩
   ·simp only [rd]
    obtain ⟨fz, hfz⟩ := hhg
    rw [bytesD_len]
    exact ⟨_, _, rfl, by simpa [bytesD_len] using k4, k5, by simpa [bytesD_len] using hbs2, .inr ⟨g, 0, cur, _, fz, rfl, fun hm => by
     rcases List.mem_append.1 hm with hm | hm
     ·simp only [List.mem_singleton] at hm; exact hbg hm.symm
     ·exact hgM hm, hfz, rdR_weak W 1 _ cur 0 (by rw [mx_bytesD]; exact Nat.le_refl _) k7⟩⟩
  ·refine ⟨hu.os, hu.tape, hu.output, hu.drawn, hu.size, fun q hq hne => hu.blk q hq fun hm => hne ?_⟩
   simp only [List.mem_singleton] at hm
   subst hm
   simp [hotOf, k1]
  ·rw [hH] at hq
   simp only [List.mem_singleton] at hq
   subst hq
   exact .inl (by simp [hotOf, h1])
  ·intro e he _
   simp only [List.mem_singleton] at he
   subst he
   exact hcur
  ·simp only [rd]
   exact ⟨trivial, by omega⟩
end
end Go.Dm
end

section
/-
  DERIVED: THE SHELF's CONTRACTS AT THIS DUMP, IN PLAIN WORDS (tools/lay-plain.mjs out of 'YtdgocjbakjamaaaGreatLay.lean', which tools/lay-shelf.mjs wrote): THE SAME DECLARATIONS UNDER THE SAME NAMES: 'import', 'namespace', 'open', 'def', 'theorem' AND NOTHING ELSE: no command of the shelf's: FOR A HAND-IN. Each laying: the table of numbers ('.._ren') and one theorem, a field a fact of the dump's own or the kernel's comparison; each contract: ONE APPLICATION.
-/
namespace Go.Proofs
open Go.Shelf
def Tryz.sortStr_ren : Go.Shelf.Ren := ⟨fun | 6 => 203 | 8 => 140 | 9 => 262 | 19 => 218 | 20 => 219 | 21 => 289 | 22 => 290 | 23 => 291 | 24 => 292 | 25 => 293 | 26 => 294 | 27 => 295 | 28 => 296 | 29 => 297 | 36 => 305 | 31 => 269 | 32 => 270 | 37 => 306 | 38 => 307 | 39 => 308 | 41 => 311 | n => n, fun | 27 => 51 | 29 => 9 | 3 => 3 | 32 => 199 | 26 => 51 | 0 => 0 | 44 => 266 | 46 => 176 | 4 => 4 | 36 => 259 | 35 => 258 | 41 => 263 | 5 => 5 | 9 => 9 | 53 => 311 | 57 => 315 | 63 => 332 | 64 => 274 | n => n, fun | n => n⟩
theorem Tryz.sortStr : Go.Proofs.SlLaysM.n6 Tryz.prog Tryz.sortStr_ren := {
 mixed := by kernel_rfl
 f6 := ⟨Tryz.f203.name, by decide, Tryz.func203.trans (congrArg some (by kernel_rfl))⟩
 f8 := Tryz.func140.trans (congrArg some (by kernel_rfl))
 f9 := ⟨Tryz.f262.name, by decide, Tryz.func262.trans (congrArg some (by kernel_rfl))⟩
 f19 := Tryz.func218.trans (congrArg some (by kernel_rfl))
 f20 := Tryz.func219.trans (congrArg some (by kernel_rfl))
 f21 := ⟨Tryz.f289.name, by decide, Tryz.func289.trans (congrArg some (by kernel_rfl))⟩
 f22 := ⟨Tryz.f290.name, by decide, Tryz.func290.trans (congrArg some (by kernel_rfl))⟩
 f23 := ⟨Tryz.f291.name, by decide, Tryz.func291.trans (congrArg some (by kernel_rfl))⟩
 f24 := ⟨Tryz.f292.name, by decide, Tryz.func292.trans (congrArg some (by kernel_rfl))⟩
 f25 := ⟨Tryz.f293.name, by decide, Tryz.func293.trans (congrArg some (by kernel_rfl))⟩
 f26 := ⟨Tryz.f294.name, by decide, Tryz.func294.trans (congrArg some (by kernel_rfl))⟩
 f27 := ⟨Tryz.f295.name, by decide, Tryz.func295.trans (congrArg some (by kernel_rfl))⟩
 f28 := ⟨Tryz.f296.name, by decide, Tryz.func296.trans (congrArg some (by kernel_rfl))⟩
 f29 := ⟨Tryz.f297.name, by decide, Tryz.func297.trans (congrArg some (by kernel_rfl))⟩
 f31 := Tryz.func269.trans (congrArg some (by kernel_rfl))
 f32 := Tryz.func270.trans (congrArg some (by kernel_rfl))
 f36 := ⟨Tryz.f305.name, by decide, Tryz.func305.trans (congrArg some (by kernel_rfl))⟩
 f37 := ⟨Tryz.f306.name, by decide, Tryz.func306.trans (congrArg some (by kernel_rfl))⟩
 f38 := ⟨Tryz.f307.name, by decide, Tryz.func307.trans (congrArg some (by kernel_rfl))⟩
 f39 := ⟨Tryz.f308.name, by decide, Tryz.func308.trans (congrArg some (by kernel_rfl))⟩
 f41 := ⟨Tryz.f311.name, by decide, Tryz.func311.trans (congrArg some (by kernel_rfl))⟩
 t0 := Tryz.underlying0
 a0 := Tryz.isAgg0
 z0 := Tryz.sizeOf0
 v0 := Tryz.zeroValue0
 t3 := Tryz.underlying3
 a3 := Tryz.isAgg3
 z3 := Tryz.sizeOf3
 v3 := Tryz.zeroValue3
 t4 := Tryz.underlying4
 a4 := Tryz.isAgg4
 z4 := Tryz.sizeOf4
 v4 := Tryz.zeroValue4
 t5 := Tryz.underlying5
 a5 := Tryz.isAgg5
 z5 := Tryz.sizeOf5
 v5 := Tryz.zeroValue5
 t9 := Tryz.underlying9
 a9 := Tryz.isAgg9
 z9 := Tryz.sizeOf9
 v9 := Tryz.zeroValue9
 t26 := Tryz.underlying51
 a26 := Tryz.isAgg51
 z26 := Tryz.sizeOf51
 v26 := Tryz.zeroValue51
 t27 := Tryz.underlying51
 a27 := Tryz.isAgg51
 z27 := Tryz.sizeOf51
 v27 := Tryz.zeroValue51
 t29 := Tryz.underlying9
 a29 := Tryz.isAgg9
 z29 := Tryz.sizeOf9
 v29 := Tryz.zeroValue9
 t32 := Tryz.underlying199
 a32 := Tryz.isAgg199
 z32 := Tryz.sizeOf199
 v32 := Tryz.zeroValue199
 t35 := Tryz.underlying258
 a35 := Tryz.isAgg258
 z35 := Tryz.sizeOf258
 v35 := Tryz.zeroValue258
 t36 := Tryz.underlying259
 a36 := Tryz.isAgg259
 z36 := Tryz.sizeOf259
 v36 := Tryz.zeroValue259
 t41 := Tryz.underlying263
 a41 := Tryz.isAgg263
 z41 := Tryz.sizeOf263
 v41 := Tryz.zeroValue263
 t44 := Tryz.underlying266
 a44 := Tryz.isAgg266
 z44 := Tryz.sizeOf266
 v44 := Tryz.zeroValue266
 t46 := Tryz.underlying176
 a46 := Tryz.isAgg176
 z46 := Tryz.sizeOf176
 v46 := Tryz.zeroValue176
 t53 := Tryz.underlying311
 a53 := Tryz.isAgg311
 z53 := Tryz.sizeOf311
 v53 := Tryz.zeroValue311
 t57 := Tryz.underlying315
 a57 := Tryz.isAgg315
 z57 := Tryz.sizeOf315
 v57 := Tryz.zeroValue315
 t63 := Tryz.underlying332
 a63 := Tryz.isAgg332
 z63 := Tryz.sizeOf332
 v63 := Tryz.zeroValue332
 t64 := Tryz.underlying274
 a64 := Tryz.isAgg274
 z64 := Tryz.sizeOf274
 v64 := Tryz.zeroValue274 }
def Tryz.bldString_ren : Go.Shelf.Ren := ⟨fun | 169 => 259 | n => n, fun | 70 => 296 | 9 => 9 | 0 => 0 | 72 => 299 | 37 => 297 | 127 => 324 | 3 => 3 | 5 => 5 | n => n, fun | n => n⟩
theorem Tryz.bldString : Go.Proofs.Lays.n169 Tryz.prog Tryz.bldString_ren := {
 mixed := by kernel_rfl
 f169 := Tryz.func259.trans (congrArg some (by kernel_rfl))
 t0 := Tryz.underlying0
 a0 := Tryz.isAgg0
 z0 := Tryz.sizeOf0
 v0 := Tryz.zeroValue0
 t3 := Tryz.underlying3
 a3 := Tryz.isAgg3
 z3 := Tryz.sizeOf3
 v3 := Tryz.zeroValue3
 t9 := Tryz.underlying9
 a9 := Tryz.isAgg9
 z9 := Tryz.sizeOf9
 v9 := Tryz.zeroValue9
 t37 := Tryz.underlying297
 a37 := Tryz.isAgg297
 z37 := Tryz.sizeOf297
 v37 := Tryz.zeroValue297
 t70 := Tryz.underlying296
 a70 := Tryz.isAgg296
 z70 := Tryz.sizeOf296
 v70 := Tryz.zeroValue296
 t72 := Tryz.underlying299
 a72 := Tryz.isAgg299
 z72 := Tryz.sizeOf299
 v72 := Tryz.zeroValue299
 t127 := Tryz.underlying324
 a127 := Tryz.isAgg324
 z127 := Tryz.sizeOf324
 v127 := Tryz.zeroValue324 }
def Tryz.sortFArc_ren : Go.Shelf.Ren := ⟨fun | 6 => 73 | 15 => 140 | 14 => 139 | 28 => 218 | 29 => 219 | 20 => 210 | 21 => 211 | 22 => 212 | 23 => 213 | 24 => 214 | 25 => 215 | 26 => 216 | 27 => 217 | 46 => 268 | 47 => 269 | 48 => 270 | 49 => 271 | 50 => 272 | 57 => 299 | n => n, fun | 22 => 29 | 24 => 49 | 25 => 127 | 3 => 3 | 39 => 199 | 0 => 0 | 53 => 266 | 55 => 176 | 4 => 4 | 46 => 259 | 45 => 258 | 50 => 263 | 5 => 5 | 9 => 9 | 66 => 311 | 70 => 315 | 76 => 332 | 77 => 274 | n => n, fun | n => n⟩
theorem Tryz.sortFArc : Go.Proofs.SlLaysF0.n6 Tryz.prog Tryz.sortFArc_ren := {
 mixed := by kernel_rfl
 f6 := ⟨Tryz.f73.name, by decide, Tryz.func73.trans (congrArg some (by kernel_rfl))⟩
 f14 := ⟨Tryz.f139.name, by decide, Tryz.func139.trans (congrArg some (by kernel_rfl))⟩
 f15 := Tryz.func140.trans (congrArg some (by kernel_rfl))
 f20 := ⟨Tryz.f210.name, by decide, Tryz.func210.trans (congrArg some (by kernel_rfl))⟩
 f21 := ⟨Tryz.f211.name, by decide, Tryz.func211.trans (congrArg some (by kernel_rfl))⟩
 f22 := ⟨Tryz.f212.name, by decide, Tryz.func212.trans (congrArg some (by kernel_rfl))⟩
 f23 := ⟨Tryz.f213.name, by decide, Tryz.func213.trans (congrArg some (by kernel_rfl))⟩
 f24 := ⟨Tryz.f214.name, by decide, Tryz.func214.trans (congrArg some (by kernel_rfl))⟩
 f25 := ⟨Tryz.f215.name, by decide, Tryz.func215.trans (congrArg some (by kernel_rfl))⟩
 f26 := ⟨Tryz.f216.name, by decide, Tryz.func216.trans (congrArg some (by kernel_rfl))⟩
 f27 := ⟨Tryz.f217.name, by decide, Tryz.func217.trans (congrArg some (by kernel_rfl))⟩
 f28 := Tryz.func218.trans (congrArg some (by kernel_rfl))
 f29 := Tryz.func219.trans (congrArg some (by kernel_rfl))
 f46 := ⟨Tryz.f268.name, by decide, Tryz.func268.trans (congrArg some (by kernel_rfl))⟩
 f47 := Tryz.func269.trans (congrArg some (by kernel_rfl))
 f48 := Tryz.func270.trans (congrArg some (by kernel_rfl))
 f49 := ⟨Tryz.f271.name, by decide, Tryz.func271.trans (congrArg some (by kernel_rfl))⟩
 f50 := ⟨Tryz.f272.name, by decide, Tryz.func272.trans (congrArg some (by kernel_rfl))⟩
 f57 := ⟨Tryz.f299.name, by decide, Tryz.func299.trans (congrArg some (by kernel_rfl))⟩
 t0 := Tryz.underlying0
 a0 := Tryz.isAgg0
 z0 := Tryz.sizeOf0
 v0 := Tryz.zeroValue0
 t3 := Tryz.underlying3
 a3 := Tryz.isAgg3
 z3 := Tryz.sizeOf3
 v3 := Tryz.zeroValue3
 t4 := Tryz.underlying4
 a4 := Tryz.isAgg4
 z4 := Tryz.sizeOf4
 v4 := Tryz.zeroValue4
 t5 := Tryz.underlying5
 a5 := Tryz.isAgg5
 z5 := Tryz.sizeOf5
 v5 := Tryz.zeroValue5
 t9 := Tryz.underlying9
 a9 := Tryz.isAgg9
 z9 := Tryz.sizeOf9
 v9 := Tryz.zeroValue9
 t22 := Tryz.underlying29
 a22 := Tryz.isAgg29
 z22 := Tryz.sizeOf29
 v22 := Tryz.zeroValue29
 t25 := Tryz.underlying127
 a25 := Tryz.isAgg127
 z25 := Tryz.sizeOf127
 v25 := Tryz.zeroValue127
 t39 := Tryz.underlying199
 a39 := Tryz.isAgg199
 z39 := Tryz.sizeOf199
 v39 := Tryz.zeroValue199
 t45 := Tryz.underlying258
 a45 := Tryz.isAgg258
 z45 := Tryz.sizeOf258
 v45 := Tryz.zeroValue258
 t46 := Tryz.underlying259
 a46 := Tryz.isAgg259
 z46 := Tryz.sizeOf259
 v46 := Tryz.zeroValue259
 t50 := Tryz.underlying263
 a50 := Tryz.isAgg263
 z50 := Tryz.sizeOf263
 v50 := Tryz.zeroValue263
 t53 := Tryz.underlying266
 a53 := Tryz.isAgg266
 z53 := Tryz.sizeOf266
 v53 := Tryz.zeroValue266
 t55 := Tryz.underlying176
 a55 := Tryz.isAgg176
 z55 := Tryz.sizeOf176
 v55 := Tryz.zeroValue176
 t66 := Tryz.underlying311
 a66 := Tryz.isAgg311
 z66 := Tryz.sizeOf311
 v66 := Tryz.zeroValue311
 t70 := Tryz.underlying315
 a70 := Tryz.isAgg315
 z70 := Tryz.sizeOf315
 v70 := Tryz.zeroValue315
 t76 := Tryz.underlying332
 a76 := Tryz.isAgg332
 z76 := Tryz.sizeOf332
 v76 := Tryz.zeroValue332
 t77 := Tryz.underlying274
 a77 := Tryz.isAgg274
 z77 := Tryz.sizeOf274
 v77 := Tryz.zeroValue274 }
def Tryz.sortInt_ren : Go.Shelf.Ren := ⟨fun | 189 => 75 | 125 => 140 | 257 => 144 | 128 => 218 | 129 => 219 | 294 => 221 | 295 => 222 | 296 => 223 | 297 => 224 | 298 => 225 | 299 => 226 | 216 => 227 | 300 => 228 | 301 => 229 | 328 => 273 | 329 => 269 | 330 => 270 | 331 => 274 | 332 => 275 | 215 => 220 | 343 => 300 | n => n, fun | 28 => 28 | 3 => 3 | 46 => 199 | 0 => 0 | 51 => 266 | 53 => 176 | 4 => 4 | 183 => 259 | 182 => 258 | 131 => 263 | 5 => 5 | 9 => 9 | 218 => 311 | 222 => 315 | 228 => 332 | 229 => 274 | n => n, fun | n => n⟩
theorem Tryz.sortInt : Go.Proofs.Lays.n189 Tryz.prog Tryz.sortInt_ren := {
 mixed := by kernel_rfl
 f125 := Tryz.func140.trans (congrArg some (by kernel_rfl))
 f128 := Tryz.func218.trans (congrArg some (by kernel_rfl))
 f129 := Tryz.func219.trans (congrArg some (by kernel_rfl))
 f189 := Tryz.func75.trans (congrArg some (by kernel_rfl))
 f215 := Tryz.func220.trans (congrArg some (by kernel_rfl))
 f216 := Tryz.func227.trans (congrArg some (by kernel_rfl))
 f257 := Tryz.func144.trans (congrArg some (by kernel_rfl))
 f294 := Tryz.func221.trans (congrArg some (by kernel_rfl))
 f295 := Tryz.func222.trans (congrArg some (by kernel_rfl))
 f296 := Tryz.func223.trans (congrArg some (by kernel_rfl))
 f297 := Tryz.func224.trans (congrArg some (by kernel_rfl))
 f298 := Tryz.func225.trans (congrArg some (by kernel_rfl))
 f299 := Tryz.func226.trans (congrArg some (by kernel_rfl))
 f300 := Tryz.func228.trans (congrArg some (by kernel_rfl))
 f301 := Tryz.func229.trans (congrArg some (by kernel_rfl))
 f328 := Tryz.func273.trans (congrArg some (by kernel_rfl))
 f329 := Tryz.func269.trans (congrArg some (by kernel_rfl))
 f330 := Tryz.func270.trans (congrArg some (by kernel_rfl))
 f331 := Tryz.func274.trans (congrArg some (by kernel_rfl))
 f332 := Tryz.func275.trans (congrArg some (by kernel_rfl))
 f343 := Tryz.func300.trans (congrArg some (by kernel_rfl))
 t0 := Tryz.underlying0
 a0 := Tryz.isAgg0
 z0 := Tryz.sizeOf0
 v0 := Tryz.zeroValue0
 t3 := Tryz.underlying3
 a3 := Tryz.isAgg3
 z3 := Tryz.sizeOf3
 v3 := Tryz.zeroValue3
 t4 := Tryz.underlying4
 a4 := Tryz.isAgg4
 z4 := Tryz.sizeOf4
 v4 := Tryz.zeroValue4
 t5 := Tryz.underlying5
 a5 := Tryz.isAgg5
 z5 := Tryz.sizeOf5
 v5 := Tryz.zeroValue5
 t9 := Tryz.underlying9
 a9 := Tryz.isAgg9
 z9 := Tryz.sizeOf9
 v9 := Tryz.zeroValue9
 t28 := Tryz.underlying28
 a28 := Tryz.isAgg28
 z28 := Tryz.sizeOf28
 v28 := Tryz.zeroValue28
 t46 := Tryz.underlying199
 a46 := Tryz.isAgg199
 z46 := Tryz.sizeOf199
 v46 := Tryz.zeroValue199
 t51 := Tryz.underlying266
 a51 := Tryz.isAgg266
 z51 := Tryz.sizeOf266
 v51 := Tryz.zeroValue266
 t53 := Tryz.underlying176
 a53 := Tryz.isAgg176
 z53 := Tryz.sizeOf176
 v53 := Tryz.zeroValue176
 t131 := Tryz.underlying263
 a131 := Tryz.isAgg263
 z131 := Tryz.sizeOf263
 v131 := Tryz.zeroValue263
 t182 := Tryz.underlying258
 a182 := Tryz.isAgg258
 z182 := Tryz.sizeOf258
 v182 := Tryz.zeroValue258
 t183 := Tryz.underlying259
 a183 := Tryz.isAgg259
 z183 := Tryz.sizeOf259
 v183 := Tryz.zeroValue259
 t218 := Tryz.underlying311
 a218 := Tryz.isAgg311
 z218 := Tryz.sizeOf311
 v218 := Tryz.zeroValue311
 t222 := Tryz.underlying315
 a222 := Tryz.isAgg315
 z222 := Tryz.sizeOf315
 v222 := Tryz.zeroValue315
 t228 := Tryz.underlying332
 a228 := Tryz.isAgg332
 z228 := Tryz.sizeOf332
 v228 := Tryz.zeroValue332
 t229 := Tryz.underlying274
 a229 := Tryz.isAgg274
 z229 := Tryz.sizeOf274
 v229 := Tryz.zeroValue274 }
def Tryz.keysM_ren : Go.Shelf.Ren := ⟨fun | 7 => 130 | 10 => 204 | n => n, fun | 23 => 190 | 26 => 9 | 3 => 3 | 28 => 188 | 0 => 0 | 27 => 187 | 33 => 247 | 4 => 4 | n => n, fun | n => n⟩
theorem Tryz.keysM : Go.Proofs.SlLaysZ.n7 Tryz.prog Tryz.keysM_ren := {
 mixed := by kernel_rfl
 f7 := ⟨Tryz.f130.name, by decide, Tryz.func130.trans (congrArg some (by kernel_rfl))⟩
 f10 := ⟨Tryz.f204.name, by decide, Tryz.func204.trans (congrArg some (by kernel_rfl))⟩
 t0 := Tryz.underlying0
 a0 := Tryz.isAgg0
 z0 := Tryz.sizeOf0
 v0 := Tryz.zeroValue0
 t4 := Tryz.underlying4
 a4 := Tryz.isAgg4
 z4 := Tryz.sizeOf4
 v4 := Tryz.zeroValue4
 t23 := Tryz.underlying190
 a23 := Tryz.isAgg190
 z23 := Tryz.sizeOf190
 v23 := Tryz.zeroValue190
 t26 := Tryz.underlying9
 a26 := Tryz.isAgg9
 z26 := Tryz.sizeOf9
 v26 := Tryz.zeroValue9
 t27 := Tryz.underlying187
 a27 := Tryz.isAgg187
 z27 := Tryz.sizeOf187
 v27 := Tryz.zeroValue187
 t28 := Tryz.underlying188
 a28 := Tryz.isAgg188
 z28 := Tryz.sizeOf188
 v28 := Tryz.zeroValue188
 t33 := Tryz.underlying247
 a33 := Tryz.isAgg247
 z33 := Tryz.sizeOf247
 v33 := Tryz.zeroValue247 }
def Tryz.sortedM_ren : Go.Shelf.Ren := ⟨fun | 6 => 129 | 8 => 202 | 9 => 203 | 11 => 261 | 13 => 140 | 12 => 262 | 23 => 218 | 24 => 219 | 14 => 289 | 15 => 290 | 16 => 291 | 17 => 292 | 18 => 293 | 19 => 294 | 20 => 295 | 21 => 296 | 22 => 297 | 25 => 305 | 26 => 269 | 27 => 270 | 28 => 306 | 29 => 307 | 30 => 308 | 31 => 311 | n => n, fun | 26 => 9 | 28 => 188 | 24 => 51 | 0 => 0 | 3 => 3 | 37 => 199 | 48 => 266 | 50 => 176 | 4 => 4 | 40 => 259 | 39 => 258 | 45 => 263 | 5 => 5 | 9 => 9 | 51 => 311 | 55 => 315 | 57 => 332 | 58 => 274 | 33 => 247 | n => n, fun | n => n⟩
theorem Tryz.sortedM : Go.Proofs.SlLaysZ.n6 Tryz.prog Tryz.sortedM_ren := {
 mixed := by kernel_rfl
 f6 := ⟨Tryz.f129.name, by decide, Tryz.func129.trans (congrArg some (by kernel_rfl))⟩
 f8 := ⟨Tryz.f202.name, by decide, Tryz.func202.trans (congrArg some (by kernel_rfl))⟩
 f11 := ⟨Tryz.f261.name, by decide, Tryz.func261.trans (congrArg some (by kernel_rfl))⟩
 t0 := Tryz.underlying0
 a0 := Tryz.isAgg0
 z0 := Tryz.sizeOf0
 v0 := Tryz.zeroValue0
 t24 := Tryz.underlying51
 a24 := Tryz.isAgg51
 z24 := Tryz.sizeOf51
 v24 := Tryz.zeroValue51
 t26 := Tryz.underlying9
 a26 := Tryz.isAgg9
 z26 := Tryz.sizeOf9
 v26 := Tryz.zeroValue9
 t28 := Tryz.underlying188
 a28 := Tryz.isAgg188
 z28 := Tryz.sizeOf188
 v28 := Tryz.zeroValue188
 i26 := by kernel_rfl }
def Tryz.growI_ren : Go.Shelf.Ren := ⟨fun | 4 => 209 | n => n, fun | 22 => 28 | 25 => 3 | 3 => 3 | 4 => 4 | 9 => 9 | 20 => 20 | 0 => 0 | n => n, fun | n => n⟩
theorem Tryz.growI : Go.Proofs.Lays8.n4 Tryz.prog Tryz.growI_ren := {
 mixed := by kernel_rfl
 f4 := ⟨Tryz.f209.name, by decide, Tryz.func209.trans (congrArg some (by kernel_rfl))⟩
 t0 := Tryz.underlying0
 a0 := Tryz.isAgg0
 z0 := Tryz.sizeOf0
 v0 := Tryz.zeroValue0
 t3 := Tryz.underlying3
 a3 := Tryz.isAgg3
 z3 := Tryz.sizeOf3
 v3 := Tryz.zeroValue3
 t4 := Tryz.underlying4
 a4 := Tryz.isAgg4
 z4 := Tryz.sizeOf4
 v4 := Tryz.zeroValue4
 t9 := Tryz.underlying9
 a9 := Tryz.isAgg9
 z9 := Tryz.sizeOf9
 v9 := Tryz.zeroValue9
 t20 := Tryz.underlying20
 a20 := Tryz.isAgg20
 z20 := Tryz.sizeOf20
 v20 := Tryz.zeroValue20
 t22 := Tryz.underlying28
 a22 := Tryz.isAgg28
 z22 := Tryz.sizeOf28
 v22 := Tryz.zeroValue28 }
end Go.Proofs
end

section

end

section
namespace Go.Dm
variable [DMode]
open Go.Shelf Go.Sort Go.Proofs
theorem upd_grow {w w' : World} (h : @Upd tapeMode [] w w') : ∃ q os, w' = grow (w.drewN q) os := by
 refine ⟨w'.drawn - w.drawn, w'.heap.extract w.heap.size w'.heap.size, ?_⟩
 obtain ⟨heap, tape, drawn, os, output⟩ := w'
 obtain ⟨h1, h2, h3, h4, h5, h6⟩ := h
 simp only at h1 h2 h3 h4 h5 h6 ⊢
 replace h4 := h4 rfl
 subst h1; subst h2; subst h3
 have e1 : w.heap ++ heap.extract w.heap.size heap.size = heap := by
  apply Array.ext_getElem?
  intro i
  by_cases hi : i < w.heap.size
  ·rw [Array.getElem?_append_left hi, ← h6 i hi (by simp)]
  ·rw [Array.getElem?_append_right (by omega), Array.getElem?_extract]
   by_cases hi2 : i < heap.size
   ·rw [if_pos (by omega)]
    congr 1
    omega
   ·rw [if_neg (by omega), Array.getElem?_eq_none (by omega)]
 have e2 : w.drawn + (drawn - w.drawn) = drawn := by omega
 simp [grow, World.drewN, e1, e2]
section
variable {P : Program} {ρ : Ren} {g : FuncId} {et k cap b : Nat} {cs : List DVal} {cs' : Array Value} {cf : List DVal → List DVal → Int} {es es' : List (List DVal)} {cu0 : Cur} {M1 : List Nat} {w : World} {arr : Array Value}
theorem sortWorld_at {α : Type} [Inhabited α] (enc : α → List Value) (p3 : w.heap[b]? = some (.cells arr et (0, 0))) (m : Nat) (os : Array Obj) (dk : Array α) :
  (sortWorldK enc k w b 0 m dk os).heap[b]? = some (.cells (putCells id 0 (flatK enc k dk) arr) et (0, 0)) ∧ (∀ q, q < w.heap.size → q ≠ b → (sortWorldK enc k w b 0 m dk os).heap[q]? = w.heap[q]?) ∧ w.heap.size ≤ (sortWorldK enc k w b 0 m dk os).heap.size ∧
   (sortWorldK enc k w b 0 m dk os).os = w.os ∧ (sortWorldK enc k w b 0 m dk os).tape = w.tape ∧ (sortWorldK enc k w b 0 m dk os).output = w.output ∧ w.drawn ≤ (sortWorldK enc k w b 0 m dk os).drawn := by
 have hblk : b < w.heap.size := (Array.getElem?_eq_some_iff.1 p3).1
 refine ⟨?_, fun q hq hqb => ?_, ?_, rfl, rfl, rfl, Nat.le_add_right _ _⟩
 ·simp only [sortWorldK, grow, putRowK, putRow, mapBlock, ahead]
  rw [Array.getElem?_append_left (by simpa using hblk), Array.getElem?_modify]
  simp [p3, onCells]
 ·simp only [sortWorldK, grow, putRowK, putRow, mapBlock, ahead]
  rw [Array.getElem?_append_left (by simpa using hq), Array.getElem?_modify]
  rw [if_neg (fun h => hqb h.symm)]
  rfl
 ·simp [sortWorldK, grow, putRowK, putRow, mapBlock, ahead]
theorem putCells_at {α : Type} [Inhabited α] {enc : α → List Value} (hlen : ∀ x, (enc x).length = k) {dk : Array α} {i p : Nat} (hi : i < dk.size) (hp : p < k) (hsz : dk.size * k ≤ arr.size) :
  (putCells id 0 (flatK enc k dk) arr)[i * k + p]? = (enc dk[i]!)[p]? := by
 have hrow := mul_lt_row (k := k) hi
 have hlt : i * k + p < arr.size := by omega
 have hdiv : (i * k + p) / k = i := by
  rw [Nat.mul_comm, Nat.mul_add_div (by omega), Nat.div_eq_of_lt hp]; omega
 have hmod : (i * k + p) % k = p := by rw [Nat.mul_comm, Nat.mul_add_mod]; exact Nat.mod_eq_of_lt hp
 have hlf : i * k + p < dk.size * k := by omega
 have hpe : p < (enc dk[i]!).length := by rw [hlen]; exact hp
 simp only [putCells, Nat.zero_add, Array.getElem?_mapIdx, Array.getElem?_eq_getElem hlt, Option.map_some, Nat.zero_le, true_and, size_flatK, hlf, if_true, Nat.sub_zero, id]
 rw [get_flatK _ _ _ _ hlf, hdiv, hmod, getElem!_pos (enc dk[i]!) p hpe, List.getElem?_eq_getElem hpe]
theorem sort_core {α : Type} [Inhabited α] (L : SlLaysF0.n6 P ρ) (dt : α → List DVal) (enc : α → List Value) (d : Array α) (hag : tAgg P (ρ.t 24) = some true) (hcl : tCells P (ρ.t 24) = some k) (hcs : mxL cs = 0) (hes : ∀ x ∈ es, mxL x = 0)
  (hdt : ∀ x, dt x ∈ es) (hdk : ∀ x, (dt x).length = k) (hrd : ∀ x, rdV cu0 M1 w.heap (dt x) (enc x)) (hone : ∀ x, ∀ u ∈ enc x, u.oneCell' = true) (hdsz : d.size = es.length)
  (hd : ∀ i (hi : i < es.length), dt d[i]! = es[i] ∧ ∀ (q : Nat) (v : Value), (enc d[i]!)[q]? = some v → arr[i * k + q]? = some v)
  (p3 : w.heap[b]? = some (.cells arr et (0, 0))) (hcap : es.length * k ≤ arr.size) (hbM : b ∈ M1) (hMlt : ∀ q ∈ M1, q < w.heap.size) (hcsr : rdV cu0 M1 w.heap cs cs'.toList) (hlt : es.length < 4611686018427387904)
  (hg : Enters P g) (hcmp : ∀ x ∈ es, ∀ y ∈ es, @DPure tapeMode P g (.agg x :: .agg y :: cs) (.int .i64 (cf x y)))
  (hirr : ∀ x ∈ es, ¬ cf x x < 0) (htr : ∀ x ∈ es, ∀ y ∈ es, ∀ z ∈ es, cf x y < 0 → cf y z < 0 → cf x z < 0) (hnt : ∀ x ∈ es, ∀ y ∈ es, ∀ z ∈ es, ¬ cf x y < 0 → ¬ cf y z < 0 → ¬ cf x z < 0)
  (huniq : ∀ l : List (List DVal), l.Perm es → l.Pairwise (fun x y => ¬ cf y x < 0) → l = es') :
  Calls P (ρ.f 6) #[.slice (some ⟨b, 0, none⟩) es.length cap, .func (.func g) #[] cs'] w fun e w' => e = .returned (.tuple #[]) ∧ es'.length = es.length ∧ Upd [b] w w' ∧
   ∃ arr', w'.heap[b]? = some (.cells arr' et (0, 0)) ∧ arr'.size = arr.size ∧ ∀ cur M2, (∀ q ∈ M2, q ∈ M1) → rdR cur M2 w'.heap k es' arr' 0 := by
 have hlen : ∀ x : α, (enc x).length = k := fun x => by
  have := rdV_length _ _ (hrd x)
  have := hdk x
  omega
 have hO : SWO (ltOf fun x y : α => cf (dt x) (dt y)) := by
  refine ⟨fun x => ?_, fun x y z h1 h2 => ?_, fun x y z h1 h2 => ?_⟩
  ·simp only [ltOf, decide_eq_false_iff_not]; exact hirr _ (hdt x)
  ·simp only [ltOf, decide_eq_true_eq] at *; exact htr _ (hdt x) _ (hdt y) _ (hdt z) h1 h2
  ·simp only [ltOf, decide_eq_false_iff_not] at *; exact hnt _ (hdt x) _ (hdt y) _ (hdt z) h1 h2
 have hH : HoldsK enc k w b 0 d := by
  intro j hj
  rw [size_flatK, hdsz] at hj
  have hk0 : 0 < k := by
   rcases Nat.eq_zero_or_pos k with h | h
   ·subst h; simp at hj
   ·exact h
  have hi : j / k < es.length := by rw [Nat.div_lt_iff_lt_mul hk0]; exact hj
  have hq : j % k < k := Nat.mod_lt _ hk0
  rw [get_flatK _ _ _ _ (by rw [hdsz]; exact hj)]
  have hq' : j % k < (enc d[j / k]!).length := by rw [hlen]; exact hq
  have hcell := (hd _ hi).2 (j % k) _ (List.getElem?_eq_getElem hq')
  rw [Nat.mul_comm, Nat.div_add_mod] at hcell
  rw [getElem!_pos (enc d[j / k]!) _ hq']
  exact ⟨by simp only [World.cell?, p3, Nat.zero_add, id]; exact hcell, by simp [World.frozen?, p3]⟩
 have hblk : b < w.heap.size := (Array.getElem?_eq_some_iff.1 p3).1
 have Wk : ∀ m os (dk : Array α) (cur : Cur) (M2 : List Nat), (∀ q ∈ M2, q ∈ M1) → Weak cu0 cur M1 M2 w.heap (sortWorldK enc k w b 0 m dk os).heap 0 := by
  intro m os dk cur M2 hM2
  have hW := sortWorld_at (et := et) (arr := arr) (k := k) enc p3 m os dk
  exact ⟨fun _ _ _ h => by omega, fun q o hq (_ : isD o = true) ho => by rw [hW.2.1 q (Array.getElem?_eq_some_iff.1 ho).1 (fun h => hq (h ▸ hbM))]; exact ho, fun q o hq (_ : isD o = true) _ hm => hq (hM2 q hm)⟩
 have hC : CmpLays P g cs' enc k (fun x y : α => cf (dt x) (dt y)) b 0 d.size w := by
  intro m os dk _ x y
  have hD := hcmp _ (hdt x) _ (hdt y)
  have hW := sortWorld_at (et := et) (arr := arr) (k := k) enc p3 m os dk
  have hx := rdV_weak (Wk m os dk (fun _ _ => none) M1 (fun _ h => h)) _ _ (Nat.le_of_eq (hes _ (hdt x))) (hrd x)
  have hy := rdV_weak (Wk m os dk (fun _ _ => none) M1 (fun _ h => h)) _ _ (Nat.le_of_eq (hes _ (hdt y))) (hrd y)
  have hc := rdV_weak (Wk m os dk (fun _ _ => none) M1 (fun _ h => h)) _ _ (Nat.le_of_eq hcs) hcsr
  obtain ⟨X, hX⟩ : ∃ X, X = (enc x).toArray := ⟨_, rfl⟩
  obtain ⟨Y, hY⟩ : ∃ Y, Y = (enc y).toArray := ⟨_, rfl⟩
  simp only [← hX, ← hY]
  generalize sortWorldK enc k w b 0 m dk os = V at hW hx hy hc ⊢
  have key := hD.2.2 (fun _ _ => none) M1 V (#[.agg X, .agg Y] ++ cs') (fun q hq => Nat.lt_of_lt_of_le (hMlt q hq) hW.2.2.1)
  refine (key ?_).mono ?_
  ·have e1 : (#[Value.agg X, Value.agg Y] ++ cs').toList = Value.agg X :: Value.agg Y :: cs'.toList := by simp
   rw [e1]
   simp only [rdV]
   refine ⟨_, _, rfl, ?_, _, _, rfl, ?_, hc⟩
   ·simp only [rd]; exact ⟨_, rfl, by rw [hX]; exact hx⟩
   ·simp only [rd]; exact ⟨_, rfl, by rw [hY]; exact hy⟩
  ·rintro e w' ⟨v, rfl, hu, hv⟩
   simp only [rd] at hv
   exact ⟨by rw [hv.1], upd_grow hu⟩
 have hrun := AnyQ.slices_SortFunc L k (run_isAgg hag) (run_sizeOf' hcl) enc hlen hone (fun x y : α => cf (dt x) (dt y)) hO g cs' b 0 cap d w hg hC hH hblk (by omega)
 rw [hdsz] at hrun
 refine hrun.mono ?_
 rintro e w' ⟨rfl, d', n, os, hP, hS, rfl⟩
 obtain ⟨hsz', _, hperm⟩ := hP
 rw [hdsz] at hsz'
 have e1 : d'.extract 0 es.length = d' := by rw [← hsz']; exact Array.extract_size
 have e2 : d.extract 0 es.length = d := by rw [← hdsz]; exact Array.extract_size
 rw [e1, e2] at hperm
 have hdes : d.toList.map dt = es := by
  apply List.ext_getElem
  ·simp [hdsz]
  ·intro i h1 h2
   have := (hd i h2).1
   rw [getElem!_pos d i (by omega)] at this
   simpa using this
 have hdata : d'.toList.map dt = es' := by
  refine huniq _ ?_ ?_
  ·have := hperm.map dt
   rwa [hdes] at this
  ·rw [List.pairwise_map, List.pairwise_iff_getElem]
   intro i j hi hj hij
   have hi' : i < d'.size := by simpa using hi
   have hj' : j < d'.size := by simpa using hj
   have := hS i j (Nat.zero_le _) hij (by omega)
   rw [getElem!_pos d' j hj', getElem!_pos d' i hi'] at this
   simpa [ltOf] using this
 have hlen' : es'.length = es.length := by rw [← hdata]; simp [hsz']
 obtain ⟨q1, q2, q3, q4, q5, q6, q7⟩ := sortWorld_at (et := et) (arr := arr) (k := k) enc p3 n os d'
 refine ⟨rfl, hlen', ⟨q4, q5, q6, fun _ => q7, q3, fun q hq hn => q2 q hq (fun h => hn (by simp [h]))⟩, _, q1, by simp [putCells], fun cur M2 hM2 => ?_⟩
 refine rdR_mk _ _ _ _ fun i cs0 hi => ?_
 have hil : i < es'.length := (List.getElem?_eq_some_iff.1 hi).1
 have hid : i < d'.size := by omega
 have hcs0 : cs0 = dt d'[i]! := by
  rw [← hdata, List.getElem?_map] at hi
  rw [getElem!_pos d' i hid]
  simp [hid] at hi
  exact hi.symm
 subst hcs0
 refine ⟨hdk _, ?_⟩
 have hv := rdV_weak (Wk n os d' cur M2 hM2) _ _ (Nat.le_of_eq (hes _ (hdt _))) (hrd d'[i]!)
 have h0 := rdC_of _ _ [] [] hv (hone _)
 refine rdC_same _ _ _ _ _ (fun p hp => ?_) h0
 have hp' : p < k := by rw [hdk] at hp; exact hp
 rw [Nat.zero_add, putCells_at hlen hid hp' (by rw [hsz']; exact hcap)]
 simp
end
theorem sort_spec {P : Program} {ρ : Ren} (L : SlLaysF0.n6 P ρ) {f g : FuncId} {et k bs : Nat} {cs : List DVal} {cf : List DVal → List DVal → Int} {es es' : List (List DVal)} (hf : ρ.f 6 = f) (hen : Enters P f) (hag : tAgg P (ρ.t 24) = some true) (hcl : tCells P (ρ.t 24) = some k)
  (hbs0 : 0 < bs) (hcs : mxL cs = 0) (hes : ∀ x ∈ es, mxL x = 0) (hg : Enters P g) (hcmp : ∀ x ∈ es, ∀ y ∈ es, @DPure tapeMode P g (.agg x :: .agg y :: cs) (.int .i64 (cf x y)))
  (hirr : ∀ x ∈ es, ¬ cf x x < 0) (htr : ∀ x ∈ es, ∀ y ∈ es, ∀ z ∈ es, cf x y < 0 → cf y z < 0 → cf x z < 0) (hnt : ∀ x ∈ es, ∀ y ∈ es, ∀ z ∈ es, ¬ cf x y < 0 → ¬ cf y z < 0 → ¬ cf x z < 0)
  (huniq : ∀ l : List (List DVal), l.Perm es → l.Pairwise (fun x y => ¬ cf y x < 0) → l = es') :
  DSpec P (.func f) [.osl 0 0, .fn (.func g) [] cs] [⟨0, 0, .row et k bs es⟩] (.tup []) [⟨0, 0, .row et k bs es'⟩] := by
 refine ⟨by simp, hen, fun M w loc vs S hr => ?_⟩
 refine ⟨hen, ?_⟩
 simp only [rdV] at hr
 obtain ⟨v0, r0, hvs, h0, v1, r1, rfl, h1, rfl⟩ := hr
 simp only [rd] at h0 h1
 obtain ⟨us', cs', rfl, hus, hcsr⟩ := h1
 simp only [rdV] at hus
 have hus' : us' = #[] := by cases us'; simpa using hus
 subst hus'
 have hcur0 : curOf [(⟨0, 0, .row et k bs es⟩ : Ent)] loc 0 0 = some (loc 0) := rfl
 have hv0 := h0 _ hcur0
 have hvs' : vs = #[v0, .func (.func g) #[] cs'] := by cases vs; simpa using hvs
 subst hvs'
 subst hf
 have hhot : hotOf [(⟨0, 0, .row et k bs es⟩ : Ent)] loc = (loc 0).blks := by simp [hotOf]
 have hhot' : hotOf [(⟨0, 0, .row et k bs es'⟩ : Ent)] loc = (loc 0).blks := by simp [hotOf]
 have htup : ∀ cur M h, rd cur M h (.tup []) (.tuple #[]) := fun _ _ _ => by simp only [rd]; exact ⟨#[], rfl, by simp [rdV]⟩
 have hk := S.ok ⟨0, 0, .row et k bs es⟩ (by simp)
 by_cases hne : es = []
 ·subst hne
  have hes' : es' = [] := (huniq [] (List.Perm.refl _) List.Pairwise.nil).symm
  subst hes'
  obtain ⟨a, cap, hh⟩ : ∃ a cap, (loc 0).hdr = .slice a 0 cap := by
   obtain ⟨_, ⟨_, _, h2⟩ | ⟨b, arr, cap, _, h2, _⟩⟩ := hk
   ·exact ⟨_, _, h2⟩
   ·exact ⟨_, _, h2⟩
  rw [hh] at hv0
  subst hv0
  refine (AnyF.slices_SortFunc_none { L with } a cap (.func (.func g) #[] cs') w).mono ?_
  rintro e w' ⟨rfl, rfl⟩
  exact ⟨_, rfl, loc, S, Upd.refl _ _, fun b hb => .inl hb, fun e he _ => curOf_self S.nd he, htup _ _ _⟩
 ·obtain ⟨b, arr, cap, p1, p2, p3, p4, p5, p6, p7⟩ : ∃ b arr cap, (loc 0).blks = [b] ∧ (loc 0).hdr = .slice (some ⟨b, 0, none⟩) es.length cap ∧ w.heap[b]? = some (.cells arr et (0, 0)) ∧ es.length ≤ cap ∧ cap ≤ maxLen ∧ cap * k = arr.size ∧ rdR (curOf [(⟨0, 0, .row et k bs es⟩ : Ent)] loc) (hotOf [(⟨0, 0, .row et k bs es⟩ : Ent)] loc ++ M) w.heap k es arr 0 := by
   obtain ⟨_, ⟨h, _⟩ | h⟩ := hk
   ·exact absurd h hne
   ·exact h
  have hbs := hk.1
  rw [p2] at hv0
  subst hv0
  obtain ⟨cu0, hcu0⟩ : ∃ c, c = curOf [(⟨0, 0, .row et k bs es⟩ : Ent)] loc := ⟨_, rfl⟩
  obtain ⟨M1, hM1⟩ : ∃ m, m = hotOf [(⟨0, 0, .row et k bs es⟩ : Ent)] loc ++ M := ⟨_, rfl⟩
  rw [← hcu0, ← hM1] at p7 hcsr
  have hbM : b ∈ M1 := by rw [hM1, hhot, p1]; simp
  have hMlt : ∀ q ∈ M1, q < w.heap.size := by rw [hM1]; exact S.lt
  have hcap : es.length * k ≤ arr.size := by rw [← p6]; exact Nat.mul_le_mul_right _ p4
  have hpos : 0 < es.length := List.length_pos_iff.2 hne
  have hel : ∀ i : Fin es.length, ∃ us : List Value, rdV cu0 M1 w.heap es[i.1] us ∧ (∀ u ∈ us, u.oneCell' = true) ∧ ∀ (q : Nat) (v : Value), us[q]? = some v → arr[i.1 * k + q]? = some v := by
   intro i
   obtain ⟨q1, q2⟩ := rdR_at k es arr 0 i.1 es[i.1] p7 (List.getElem?_eq_getElem i.2)
   obtain ⟨us, g1, g2, g3⟩ := rdC_vals _ _ _ q2
   refine ⟨us, g2, fun u hu => ?_, fun q v hq => ?_⟩
   ·obtain ⟨j, hj, rfl⟩ := List.getElem_of_mem hu
    exact (g3 j _ (List.getElem?_eq_getElem hj)).2
   ·have := (g3 q v hq).1
    simpa using this
  haveI : Inhabited (Fin es.length) := ⟨⟨0, hpos⟩⟩
  have hlt : es.length < 4611686018427387904 := by
   have h1 : es.length * 1 ≤ es.length * bs := Nat.mul_le_mul_left _ hbs0
   have h2 : es.length * bs ≤ 150000000000000 := hbs
   omega
  have hd : ∀ i (hi : i < es.length), (Array.ofFn (fun i : Fin es.length => i))[i]! = ⟨i, hi⟩ := by
   intro i hi
   rw [getElem!_pos _ i (by simpa using hi)]
   simp
  refine (sort_core (et := et) (α := Fin es.length) L (fun i => es[i.1]) (fun i => (hel i).choose) (Array.ofFn fun i => i) hag hcl hcs hes (fun i => List.getElem_mem _) (fun i => (rdR_at k es arr 0 i.1 es[i.1] p7 (List.getElem?_eq_getElem i.2)).1) (fun i => (hel i).choose_spec.1) (fun i => (hel i).choose_spec.2.1) (by simp)
   (fun i hi => by rw [hd i hi]; exact ⟨rfl, (hel ⟨i, hi⟩).choose_spec.2.2⟩) p3 hcap hbM hMlt hcsr hlt hg hcmp hirr htr hnt huniq).mono ?_
  rintro e w' ⟨rfl, hlen', hu, arr', r1, r2, r3⟩
  have hM2 : hotOf [(⟨0, 0, .row et k bs es'⟩ : Ent)] loc ++ M = M1 := by rw [hM1, hhot, hhot']
  refine ⟨_, rfl, loc, ⟨by simp, by rw [hhot', p1]; simp, fun q hq => S.ap q (by rw [hhot]; rwa [hhot'] at hq), fun q hq => ?_, ?_⟩, by rw [hhot, p1]; exact hu, fun q hq => .inl (by rw [hhot]; rwa [hhot'] at hq), ?_, htup _ _ _⟩
  ·rw [hM2] at hq; exact Nat.lt_of_lt_of_le (hMlt q hq) hu.size
  ·intro e he
   simp only [List.mem_singleton] at he
   subst he
   rw [hM2]
   exact ⟨by rw [hlen']; exact hbs, .inr ⟨b, arr', cap, p1, by rw [hlen']; exact p2, r1, by omega, p5, by omega, r3 _ _ fun _ h => h⟩⟩
  ·intro e he _
   simp only [List.mem_singleton] at he
   subst he
   exact hcur0
end Go.Dm
end

section
namespace Go.Dm
variable [DMode]
open Go.Shelf Go.Sort Go.Proofs Go.RowKit
def ssort (l : List ByteArray) : List ByteArray := ((l.map fun s => s.data.toList).mergeSort fun x y => decide (x ≤ y)).map fun x => ⟨x.toArray⟩
theorem ssort_len (l : List ByteArray) : (ssort l).length = l.length := by simp [ssort]
theorem putRow_at {α : Type} [Inhabited α] (enc : α → Value) {w : World} {b et : Nat} {arr : Array Value} (p3 : w.heap[b]? = some (.cells arr et (0, 0))) (m : Nat) (os : Array Obj) (dk : Array α) :
  (grow (putRow enc (Sort.ahead w m) b 0 dk) os).heap[b]? = some (.cells (putCells enc 0 dk arr) et (0, 0)) ∧ (∀ q, q < w.heap.size → q ≠ b → (grow (putRow enc (Sort.ahead w m) b 0 dk) os).heap[q]? = w.heap[q]?) ∧ w.heap.size ≤ (grow (putRow enc (Sort.ahead w m) b 0 dk) os).heap.size ∧
   (grow (putRow enc (Sort.ahead w m) b 0 dk) os).os = w.os ∧ (grow (putRow enc (Sort.ahead w m) b 0 dk) os).tape = w.tape ∧ (grow (putRow enc (Sort.ahead w m) b 0 dk) os).output = w.output ∧ w.drawn ≤ (grow (putRow enc (Sort.ahead w m) b 0 dk) os).drawn := by
 have hblk : b < w.heap.size := (Array.getElem?_eq_some_iff.1 p3).1
 refine ⟨?_, fun q hq hqb => ?_, ?_, rfl, rfl, rfl, Nat.le_add_right _ _⟩
 ·simp only [grow, putRow, mapBlock, Sort.ahead]
  rw [Array.getElem?_append_left (by simpa using hblk), Array.getElem?_modify]
  simp [p3, onCells]
 ·simp only [grow, putRow, mapBlock, Sort.ahead]
  rw [Array.getElem?_append_left (by simpa using hq), Array.getElem?_modify]
  rw [if_neg (fun h => hqb h.symm)]
 ·simp [grow, putRow, mapBlock, Sort.ahead]
end Go.Dm
end

section
namespace Go.Proofs.YtdgocjbakjamaaaGreat
open Go Go.Dm Go.RowKit Go.Proofs
variable [DMode]
set_option maxRecDepth 100000
set_option maxHeartbeats 1000000 in
theorem copyCheck_first (b n : Nat) (w : World) (h0 : w.cell? ⟨b, 0, none⟩ = some (.pointer none)) (hsh : w.shape? b = some (299, n)) (hn : 0 < n) (hl : liesAt Tryz.prog Tryz.prog.depth 299 (n / Tryz.prog.cellsOf 299) 0 299 1 = true) (hfz : w.frozen? ⟨b, 0, none⟩ = false) :
  Calls Tryz.prog 288 #[.pointer (some ⟨b, 0, none⟩)] w fun e w' => e = .returned (.tuple #[]) ∧ w' = w.setCell ⟨b, 0, none⟩ (.pointer (some ⟨b, 0, none⟩)) := by
 obtain ⟨j, hj, hjs⟩ : ∃ j, Tryz.prog.info? 299 = some j ∧ j.size = 2 := Option.map_eq_some_iff.1 (show (Tryz.prog.info? 299).map (·.size) = some 2 by kernel_rfl)
 go_enter Tryz.func288, Tryz.ntmps288
 go_wp2
 rw [Lib.run_to_unsafe w ⟨b, 0, none⟩ Tryz.underlying296 Tryz.underlying337 hj (by rw [hjs]; decide) hsh hn]
 simp only [Result.andThen]
 rw [Oper.upon_value]
 go_wp2
 rw [run_callFunc_extern Tryz.func304 (by kernel_rfl) (by kernel_rfl) (by kernel_rfl) (e := Extern.AbiNoEscape.same) (by kernel_rfl)]
 rw [Lib.run_noEscape]
 simp only [Result.andThen]
 rw [Oper.upon_value]
 go_wp2
 rw [Lib.run_from_unsafe w ⟨b, 0, none⟩ Tryz.underlying337 Tryz.underlying296 hj hsh hl]
 simp only [Result.andThen]
 rw [Oper.upon_value]
 go_wp2
 go_end0
 exact ⟨rfl, rfl⟩
set_option maxHeartbeats 1000000 in
theorem copyCheck_used (b : Nat) (w : World) (h0 : w.cell? ⟨b, 0, none⟩ = some (.pointer (some ⟨b, 0, none⟩))) :
  Calls Tryz.prog 288 #[.pointer (some ⟨b, 0, none⟩)] w fun e w' => e = .returned (.tuple #[]) ∧ w' = w := by
 obtain ⟨j, hj, hjs⟩ : ∃ j, Tryz.prog.info? 299 = some j ∧ j.size = 2 := Option.map_eq_some_iff.1 (show (Tryz.prog.info? 299).map (·.size) = some 2 by kernel_rfl)
 go_enter Tryz.func288, Tryz.ntmps288
 go_wp2
 rw [Lib.run_neq_ptr_same w _ Tryz.underlying296 hj]
 go_wp2
 go_end0
 exact ⟨rfl, rfl⟩
attribute [local irreducible] DW callP callS
theorem checkFirst_spec : DSpec Tryz.prog (.func 288) [.rx 0 0 2 0 0] [⟨0, 0, .row 299 2 32 [[.nilp, .nilsl]]⟩] (.tup []) [⟨0, 0, .row 299 2 32 [[.rx 0 0 2 0 0, .nilsl]]⟩] :=
 copyCheck_spec1 (by show ¬ _; exact of_decide_eq_true (by kernel_rfl)) (by kernel_rfl) Tryz.call288 32 copyCheck_first
theorem checkUsed_spec (x : ByteArray) : DSpec Tryz.prog (.func 288) [.rx 0 0 2 0 0] [⟨0, 0, .row 299 2 32 [[.rx 0 0 2 0 0, .osl 1 0]]⟩, ⟨1, 0, .row 5 1 1 (bytesD x)⟩] (.tup [])
  [⟨0, 0, .row 299 2 32 [[.rx 0 0 2 0 0, .osl 1 0]]⟩, ⟨1, 0, .row 5 1 1 (bytesD x)⟩] :=
 copyCheck_spec2 Tryz.call288 32 (.osl 1 0) _ (by simp) copyCheck_used
def anWB0258 : Ann := ⟨[7], []⟩
set_option maxHeartbeats 1000000 in
theorem writeFirst_spec (x : ByteArray) (hx : x.size ≤ 150000000000000) :
  DSpec Tryz.prog (.func 258) [.rx 0 0 2 0 0, .str x] [⟨0, 0, .row 299 2 32 [[.nilp, .nilsl]]⟩] (.tup [.int .i64 x.size, .nilifc])
   [⟨0, 0, .row 299 2 32 [[.rx 0 0 2 0 0, .osl 1 1]]⟩, ⟨1, 1, .row 5 1 1 (bytesD x)⟩] := by
 refine DSpec_intro [] [(0, 0, 0), (14, 1, 1)] (fn := Tryz.f258) Tryz.func258 rfl Tryz.call258 (by simp [Tryz.ntmps258]) (by simp) (by simp) ?_
 intro hwf B hnt
 simp only [Tryz.ntmps258] at hnt
 have hA := an_is anWB0258 Tryz.mixed (aj2 @anWB0258.eq_1 Tryz.results258)
 simp only [argS]
 exact go0 aj0 (aj1 (spc [(0,0)] [] checkFirst_spec)) (aj1 hx)
def anWB0258b2 : Ann := ⟨[7], []⟩
set_option maxHeartbeats 1000000 in
theorem writeUsed_spec (y x : ByteArray) (hx : y.size + x.size ≤ 150000000000000) :
  DSpec Tryz.prog (.func 258) [.rx 0 0 2 0 0, .str x] [⟨0, 0, .row 299 2 32 [[.rx 0 0 2 0 0, .osl 1 0]]⟩, ⟨1, 0, .row 5 1 1 (bytesD y)⟩] (.tup [.int .i64 x.size, .nilifc])
   [⟨0, 0, .row 299 2 32 [[.rx 0 0 2 0 0, .osl 1 1]]⟩, ⟨1, 1, .row 5 1 1 (bytesD (y ++ x))⟩] := by
 refine DSpec_intro [] [(0, 0, 0), (1, 1, 1)] (fn := Tryz.f258) Tryz.func258 rfl Tryz.call258 (by simp [Tryz.ntmps258]) (by simp) (by simp) ?_
 intro hwf B hnt
 simp only [Tryz.ntmps258] at hnt
 have hA := an_is anWB0258b2 Tryz.mixed (aj2 @anWB0258b2.eq_1 Tryz.results258)
 simp only [argS]
 rw [bytesD_app]
 exact go0 aj0 (aj1 (spc [(0,0),(1,1)] [] (checkUsed_spec y))) (aj2 hx @bytesD_len)
theorem bldExtra : Builder.Extra Tryz.prog Tryz.bldString_ren where
 sizeBuilder := by kernel_rfl
 liesBuilder := by kernel_rfl
 t5 := Tryz.underlying5
 a5 := Tryz.isAgg5
 z5 := Tryz.sizeOf5
 v5 := Tryz.zeroValue5
 infoByte := by kernel_rfl
 cellsByte := by kernel_rfl
 sizeByte := by kernel_rfl
 neB5 := by decide
theorem stringSome_spec (x : ByteArray) (hx : x.size ≠ 0) : DSpec Tryz.prog (.func 259) [.rx 0 0 2 0 0] [⟨0, 0, .row 299 2 32 [[.rx 0 0 2 0 0, .osl 1 0]]⟩, ⟨1, 0, .row 5 1 1 (bytesD x)⟩] (.str x) [] :=
 builderString_spec2 Tryz.bldString bldExtra Tryz.call259 32 x hx
end Go.Proofs.YtdgocjbakjamaaaGreat
end

section
namespace Go.Proofs.YtdgocjbakjamaaaGreat
open Go Go.Dm Go.RowKit Go.Proofs
variable [DMode]
set_option maxRecDepth 1000000
def GrownTo (w w' : World) (b : Nat) (rest : List Value) : Prop := ∃ (g : Nat) (cs : Array Value), Upd [b] w w' ∧ w.heap.size ≤ g ∧ cs.size ≤ maxLen ∧
 w'.heap[b]? = some (.cells (.pointer (some ⟨b, 0, none⟩) :: .slice (some ⟨g, 0, none⟩) 0 cs.size :: rest).toArray 299 (0, 0)) ∧ w'.heap[g]? = some (.cells cs 5 (0, 0))
theorem grown_of {b : Nat} {w : World} {cs : Array Value} {rest : List Value} (hbk : w.heap[b]? = some (.cells (.pointer (some ⟨b, 0, none⟩) :: .slice none 0 0 :: rest).toArray 299 (0, 0))) (hm : cs.size ≤ maxLen) :
  GrownTo w ((w.setCell ⟨b, 1, none⟩ (.slice (some ⟨w.heap.size, 0, none⟩) 0 cs.size)).alloc (.cells cs 5)).drew.drew.drew b rest := by
 have hlt : b < w.heap.size := (Array.getElem?_eq_some_iff.1 hbk).1
 refine ⟨w.heap.size, cs, ⟨rfl, rfl, rfl, ?_, ?_, ?_⟩, Nat.le_refl _, hm, ?_, ?_⟩
 ·simp [World.drew, World.alloc, World.setCell]; omega
 ·simp [World.drew, World.alloc, World.setCell]
 ·intro q hq hn
  simp only [List.mem_singleton] at hn
  simp only [World.drew, World.alloc, World.setCell]
  rw [Array.getElem?_push, if_neg (by simp; omega), Array.getElem?_modify, if_neg (fun h => hn h.symm)]
 ·simp only [World.drew, World.alloc, World.setCell]
  rw [Array.getElem?_push, if_neg (by simp; omega), Array.getElem?_modify, if_pos rfl, hbk]
  simp
 ·simp only [World.drew, World.alloc, World.setCell]
  rw [Array.getElem?_push, if_pos (by simp)]
set_option maxHeartbeats 2000000 in
theorem grow_first (b n : Nat) (rest : List Value) (w : World) (hbk : w.heap[b]? = some (.cells (.pointer (some ⟨b, 0, none⟩) :: .slice none 0 0 :: rest).toArray 299 (0, 0))) (hn : n ≤ 140737488355328) :
  Calls Tryz.prog 309 #[.pointer (some ⟨b, 0, none⟩), .int .i64 n] w fun e w' => e = .returned (.tuple #[]) ∧ GrownTo w w' b rest := by
 have mixed := Tryz.mixed
 obtain ⟨cs, hrun, hle, hmax⟩ := Lib.run_makeNoZero (P := Tryz.prog) w.drew #[3] 297 5 Tryz.underlying297 n (by omega)
 have hw : IntKind.i64.wrap (IntKind.i64.wrap 0 + (n : Int)) = n := by
  rw [wrap64_in (n := 0) (by omega) (by omega), wrap64_in (by omega) (by omega)]; omega
 have hlt : b < w.heap.size := (Array.getElem?_eq_some_iff.1 hbk).1
 have hcall : (callFunc 312 #[.int .i64 (IntKind.i64.wrap (IntKind.i64.wrap 0 + (n : Int)))]).run Tryz.prog w.drew = .ok (.value (.slice (some ⟨w.drew.heap.size, 0, none⟩) n cs.size)) (w.drew.drew.drew.alloc (.cells cs 5)) := by
  rw [hw, run_callFunc_extern Tryz.func312 (by kernel_rfl) (by kernel_rfl) (by kernel_rfl) (e := Extern.BytealgMakeNoZero.makeNoZero #[3] #[297]) (by kernel_rfl), hrun]
  rfl
 have c1 : w.drew.cell? ⟨b, 1, none⟩ = some (.slice none 0 0) := by
  have h1 : w.drew.heap[b]? = _ := hbk
  rw [Lib.cell_of_heap h1]; rfl
 have h2 : (w.alloc (.cells cs 5)).heap[b]? = some (.cells (.pointer (some ⟨b, 0, none⟩) :: .slice none 0 0 :: rest).toArray 299 (0, 0)) := (Lib.alloc_old w _ b hlt).trans hbk
 have c2 : (w.alloc (.cells cs 5)).cell? ⟨b, 1, none⟩ = some (.slice none 0 0) := by rw [Lib.cell_of_heap h2]; rfl
 have f2 : (w.alloc (.cells cs 5)).frozen? ⟨b, 1, none⟩ = false := Lib.frozen_of_heap h2 1
 have hcopy : ∀ W : World, (Builtin.copy_ #[297, 297] 3 #[.slice (some ⟨w.heap.size, 0, none⟩) 0 cs.size, .slice none 0 0]).run Tryz.prog W = .ok (goInt 0) W :=
  fun W => run_copy_none W 297 297 3 5 _ _ 0 cs.size 0 0 Tryz.underlying297 (by kernel_rfl) rfl
 clear hw
 go_enter Tryz.func309, Tryz.ntmps309
 go_wp2
 go_region_o
 all_goals (go_wp2; go_end0; exact ⟨rfl, grown_of hbk (hmax (by unfold maxLen; omega))⟩)
end Go.Proofs.YtdgocjbakjamaaaGreat
end

section
namespace Go.Proofs.YtdgocjbakjamaaaGreat
open Go Go.Dm Go.RowKit Go.Proofs
variable [DMode]
set_option maxRecDepth 1000000
set_option maxHeartbeats 2000000 in
theorem Grow_first (b n : Nat) (rest : List Value) (w : World) (hbk : w.heap[b]? = some (.cells (.pointer none :: .slice none 0 0 :: rest).toArray 299 (0, 0))) (hn1 : 1 ≤ n) (hn : n ≤ 140737488355328) :
  Calls Tryz.prog 298 #[.pointer (some ⟨b, 0, none⟩), .int .i64 n] w fun e w' => e = .returned (.tuple #[]) ∧ GrownTo w w' b rest := by
 have mixed := Tryz.mixed
 have hlt : b < w.heap.size := (Array.getElem?_eq_some_iff.1 hbk).1
 have hbk1 : (w.setCell ⟨b, 0, none⟩ (.pointer (some ⟨b, 0, none⟩))).heap[b]? = some (.cells (.pointer (some ⟨b, 0, none⟩) :: .slice none 0 0 :: rest).toArray 299 (0, 0)) := by
  simp [World.setCell, Array.getElem?_modify, hbk]
 have c1 : (w.setCell ⟨b, 0, none⟩ (.pointer (some ⟨b, 0, none⟩))).drew.cell? ⟨b, 1, none⟩ = some (.slice none 0 0) := by
  have h1 : (w.setCell ⟨b, 0, none⟩ (.pointer (some ⟨b, 0, none⟩))).drew.heap[b]? = _ := hbk1
  rw [Lib.cell_of_heap h1]; rfl
 have hU : Upd [b] w (w.setCell ⟨b, 0, none⟩ (.pointer (some ⟨b, 0, none⟩))).drew := ⟨rfl, rfl, rfl, fun _ => Nat.le_succ _, by simp [World.setCell, World.drew], fun q hq hne => by
  simp only [List.mem_singleton] at hne
  simp only [World.setCell, World.drew]
  rw [Array.getElem?_modify, if_neg (fun h => hne h.symm)]⟩
 have hsh : w.shape? b = some (299, rest.length + 2) := by simp [World.shape?, hbk]
 have hc2 : Tryz.prog.cellsOf 299 = 2 := by kernel_rfl
 have hli := lies_same (P := Tryz.prog) (T := 299) (n := (rest.length + 2) / Tryz.prog.cellsOf 299) (by show ¬ _; exact of_decide_eq_true (by kernel_rfl)) (by rw [hc2]; decide) (by rw [hc2]; omega)
 have hcc := copyCheck_first b (rest.length + 2) w (by rw [Lib.cell_of_heap hbk]; rfl) hsh (by omega) hli (Lib.frozen_of_heap hbk 0)
 have hg := grow_first b n rest (w.setCell ⟨b, 0, none⟩ (.pointer (some ⟨b, 0, none⟩))).drew hbk1 hn
 go_enter Tryz.func298, Tryz.ntmps298
 go_wp2_with (refine hcc.mono ?_; rintro e w' ⟨rfl, rfl⟩)
 go_region_o
 all_goals go_wp2_with (refine hg.mono ?_; rintro e w' ⟨rfl, h1⟩)
 all_goals (go_end0; obtain ⟨g, cs, u, h2, h3, h4, h5⟩ := h1; exact ⟨rfl, g, cs, hU.trans u (fun x hx => .inl hx), by simpa [World.setCell, World.drew] using h2, h3, h4, h5⟩)
end Go.Proofs.YtdgocjbakjamaaaGreat
end

section
namespace Go.Proofs.YtdgocjbakjamaaaGreat
open Go Go.Dm Go.RowKit Go.Proofs
variable [DMode]
set_option maxRecDepth 100000
theorem growFirst_spec (n : Nat) (hn1 : 1 ≤ n) (hn : n ≤ 140737488355328) : DSpec Tryz.prog (.func 298) [.rx 0 0 2 0 0, .int .i64 n] [⟨0, 0, .row 299 2 32 [[.nilp, .nilsl]]⟩] (.tup [])
  [⟨0, 0, .row 299 2 32 [[.rx 0 0 2 0 0, .osl 1 1]]⟩, ⟨1, 1, .row 5 1 1 []⟩] := by
 refine ⟨by simp, Tryz.call298, fun M w loc vs S hvs => ?_⟩
 have hk := S.ok _ (List.mem_singleton.2 rfl)
 obtain ⟨hbs, hk⟩ := hk
 rcases hk with ⟨h, _⟩ | ⟨b, arr, cap, h1, h2, h3, h4, h5, h6, h7⟩
 ·simp at h
 ·obtain ⟨v0, v1, rest, rfl, g0, g1⟩ := bld_cells h7
  simp only [rd] at g0 g1
  subst g0; subst g1
  have hcur : curOf [(⟨0, 0, .row 299 2 32 [[.nilp, .nilsl]]⟩ : Ent)] loc 0 0 = some (loc 0) := by simp [curOf, findE]
  simp only [rdV, rd] at hvs
  obtain ⟨pv, r, hvs, hp, v2, r2, rfl, ⟨rfl, _⟩, rfl⟩ := hvs
  obtain ⟨b', hb', rfl⟩ := hp _ hcur
  simp only at h1 h2
  rw [h1] at hb'
  simp only [List.cons.injEq, and_true] at hb'
  subst hb'
  have hvs' : vs = #[.pointer (some ⟨b, 0, none⟩), .int .i64 n] := by apply Array.ext'; simpa using hvs
  subst hvs'
  refine ⟨Tryz.call298, (Grow_first b n rest w h3 hn1 hn).mono ?_⟩
  rintro e w' ⟨rfl, g, cs, hu, hg, hm, hb, hgc⟩
  have hgl : g < w'.heap.size := (Array.getElem?_eq_some_iff.1 hgc).1
  have hbl : b < w.heap.size := (Array.getElem?_eq_some_iff.1 h3).1
  let L1 : Dm.Loc := ⟨[g], .slice (some ⟨g, 0, none⟩) 0 cs.size⟩
  let loc' : Nat → Dm.Loc := fun i => if i = 1 then L1 else loc i
  have e0 : loc' 0 = loc 0 := rfl
  have e1 : loc' 1 = L1 := rfl
  let own' : List Ent := [⟨0, 0, .row 299 2 32 [[.rx 0 0 2 0 0, .osl 1 1]]⟩, ⟨1, 1, .row 5 1 1 []⟩]
  have hhot : hotOf own' loc' = [b, g] := by simp [own', hotOf, e0, e1, h1, L1]
  have hhot0 : hotOf [(⟨0, 0, .row 299 2 32 [[.nilp, .nilsl]]⟩ : Ent)] loc = [b] := by simp [hotOf, h1]
  have hc0 : curOf own' loc' 0 0 = some (loc 0) := by simp [own', curOf, findE, e0]
  have hc1 : curOf own' loc' 1 1 = some L1 := by simp [own', curOf, findE, e1]
  refine ⟨_, rfl, loc', ⟨by simp, ?_, ?_, ?_, ?_⟩, ?_, ?_, ?_, by simp [rd, rdV]⟩
  ·show (hotOf own' loc').Nodup
   rw [hhot]
   simp
   omega
  ·show ∀ q ∈ hotOf own' loc', q ∉ M
   rw [hhot]
   intro q hq
   rcases List.mem_cons.1 hq with rfl | hq
   ·exact S.ap q (by rw [hhot0]; simp)
   ·simp only [List.mem_singleton] at hq
    subst hq
    intro hM
    have := S.lt q (List.mem_append_right _ hM)
    omega
  ·show ∀ q ∈ hotOf own' loc' ++ M, q < w'.heap.size
   rw [hhot]
   intro q hq
   rcases List.mem_append.1 hq with hq | hq
   ·rcases List.mem_cons.1 hq with rfl | hq
    ·exact Nat.lt_of_lt_of_le hbl hu.size
    ·simp only [List.mem_singleton] at hq; subst hq; exact hgl
   ·exact Nat.lt_of_lt_of_le (S.lt q (List.mem_append_right _ hq)) hu.size
  ·intro e he
   rcases List.mem_cons.1 he with rfl | he
   ·refine ⟨hbs, .inr ⟨b, _, cap, h1, h2, hb, h4, h5, by simpa using h6, ?_⟩⟩
    refine bld_rdR ?_ ?_ rfl rfl
    ·simp only [rd]
     intro l hl
     have hl' : curOf own' loc' 0 0 = some l := hl
     rw [hc0] at hl'
     simp only [Option.some.injEq] at hl'
     subst hl'
     exact ⟨b, h1, by simp⟩
    ·simp only [rd]
     intro l hl
     have hl' : curOf own' loc' 1 1 = some l := hl
     rw [hc1] at hl'
     simp only [Option.some.injEq] at hl'
     subst hl'
     rfl
   ·simp only [List.mem_singleton] at he
    subst he
    exact ⟨by simp, .inr ⟨g, cs, cs.size, rfl, rfl, hgc, by simp, hm, by simp, by simp [rdR]⟩⟩
  ·rw [hhot0]; exact hu
  ·show ∀ q ∈ hotOf own' loc', _
   rw [hhot, hhot0]
   intro q hq
   rcases List.mem_cons.1 hq with rfl | hq
   ·exact .inl (by simp)
   ·simp only [List.mem_singleton] at hq; subst hq; exact .inr hg
  ·intro e he hr
   rcases List.mem_cons.1 he with rfl | he
   ·rw [hcur]; rfl
   ·simp only [List.mem_singleton] at he
    subst he
    simp at hr
end Go.Proofs.YtdgocjbakjamaaaGreat
end

section
namespace Go.Proofs.YtdgocjbakjamaaaGreat
open Go Go.Dm Go.RowKit Go.Proofs
variable [DMode]
attribute [local irreducible] DW callP callS
set_option maxRecDepth 100000
def joinF (sep : ByteArray) (T y : ByteArray) : ByteArray := T ++ sep ++ y
def joinB : List ByteArray → ByteArray → ByteArray
 | [], _ => ⟨#[]⟩
 | x :: r, sep => r.foldl (joinF sep) x
theorem joinF_size (sep T y : ByteArray) : (joinF sep T y).size = T.size + sep.size + y.size := by simp [joinF, ByteArray.size_append]
theorem joinK_size (sep : ByteArray) (hs : sep.size ≤ 3) : ∀ (r : List ByteArray) (x : ByteArray), (∀ y ∈ r, y.size ≤ 67108864) → (r.foldl (joinF sep) x).size ≤ x.size + 67108867 * r.length ∧ x.size ≤ (r.foldl (joinF sep) x).size
 | [], x, _ => by simp
 | y :: r, x, h => by
  obtain ⟨h1, h2⟩ := joinK_size sep hs r (joinF sep x y) fun z hz => h z (List.mem_cons_of_mem _ hz)
  have h3 := h y List.mem_cons_self
  rw [joinF_size] at h1 h2
  rw [List.foldl_cons, List.length_cons]
  omega
theorem foldl_snoc {β α : Type} {f : β → α → β} {b : β} {l : List α} {k : Nat} {x : α} (hx : l[k]? = some x) : (l.take (k + 1)).foldl f b = f ((l.take k).foldl f b) x := by
 obtain ⟨h, rfl⟩ := List.getElem?_eq_some_iff.1 hx
 rw [List.take_succ_eq_append_getElem h, List.foldl_append]
 rfl
theorem str_app0 (x : ByteArray) : (⟨#[]⟩ : ByteArray) ++ x = x := by
 apply bytes_ext
 simp [ByteArray.data_append]
theorem bytesD_0 : bytesD ⟨#[]⟩ = [] := rfl
def anWJ3266 : Ann := ⟨[57, 61, 70, 72, 74], [⟨18, [8], [], []⟩]⟩
set_option maxHeartbeats 8000000 in
theorem join_pure (xs : List ByteArray) (sep : ByteArray) (hs : sep.size ≤ 3) (hl : xs.length ≤ 1310720) (hx : ∀ x ∈ xs, 1 ≤ x.size ∧ x.size ≤ 67108864) : DPure Tryz.prog 266 [.sl 1 16 (xs.map dStr), .str sep] (.str (joinB xs sep)) := by
 refine DPure_introF [] (fn := Tryz.f266) Tryz.func266 rfl Tryz.call266 (by simp [Tryz.ntmps266]) (by simp [mx]) ?_
 intro hwf B hnt
 simp only [Tryz.ntmps266] at hnt
 have hA := an_is anWJ3266 Tryz.mixed (aj2 @anWJ3266.eq_1 Tryz.results266)
 clear hwf
 simp only [argS]
 have size_e : (⟨#[]⟩ : ByteArray).size = 0 := rfl
 match xs, hl, hx with
 | [], hl, hx =>
  exact go0 aj0 aj0 (aj3 @size_e @joinB.eq_1 @joinB.eq_2)
 | [x], hl, hx =>
  exact go0 aj0 aj0 (aj4 @size_e @joinB.eq_1 @joinB.eq_2 @dStr.eq_1)
 | x0 :: x1 :: r, hl, hx =>
  obtain ⟨xs, hxs⟩ : ∃ xs, xs = x0 :: x1 :: r := ⟨_, rfl⟩
  have hJ : joinB (x0 :: x1 :: r) sep = (xs.drop 1).foldl (joinF sep) x0 := by rw [hxs]; rfl
  have h0 : xs[0]? = some x0 := by rw [hxs]; rfl
  have h2 : 2 ≤ xs.length := by rw [hxs]; simp
  obtain ⟨J, hJJ⟩ : ∃ J, J = joinB (x0 :: x1 :: r) sep := ⟨_, rfl⟩
  rw [← hJJ]
  rw [← hxs] at hl hx ⊢
  rw [← hJJ] at hJ
  clear hJJ hxs
  have hlt0 : 0 < xs.length := by omega
  have h0' : xs[0]'hlt0 = x0 := (List.getElem?_eq_some_iff.1 h0).2
  have c0 : ¬ (xs.length : Int) = 0 := by omega
  have c1 : ¬ (xs.length : Int) = 1 := by omega
  have c0b : ((xs.length : Int) == 0) = false := by simpa using c0
  have c1b : ((xs.length : Int) == 1) = false := by simpa using c1
  have w1 : IntKind.i64.wrap ((xs.length : Int) - 1) = (xs.length : Int) - 1 := wrap64_in (by omega) (by omega)
  obtain ⟨m0, hm0, hm1, hst⟩ : ∃ m0 : Int, 0 ≤ m0 ∧ m0 ≤ 3932160 ∧ (if 0 < sep.size then m0 = (sep.size : Int) * ((xs.length : Int) - 1) else m0 = 0) := by
   by_cases h : 0 < sep.size
   ·refine ⟨(sep.size : Int) * ((xs.length : Int) - 1), ?_, ?_, by rw [if_pos h]⟩
    ·exact Int.mul_nonneg (by omega) (by omega)
    ·have : (sep.size : Int) * ((xs.length : Int) - 1) ≤ 3 * 1310720 := Int.mul_le_mul (by omega) (by omega) (by omega) (by omega)
     omega
   ·exact ⟨0, by omega, by omega, by rw [if_neg h]⟩
  have hys : (xs.drop 1).length = xs.length - 1 := by rw [List.length_drop]
  have hyx : ∀ y ∈ xs.drop 1, y.size ≤ 67108864 := fun y hy => (hx y (List.mem_of_mem_drop hy)).2
  have t2 : List.take (xs.length - 1) (xs.map dStr).tail = (xs.drop 1).map dStr := by rw [← List.drop_one, ← List.map_drop]; exact List.take_of_length_le (by simp)
  have hx0 := hx x0 (by rw [← h0']; exact List.getElem_mem hlt0)
  have hw1 := writeUsed_spec ⟨#[]⟩ x0 (by rw [size_e]; omega)
  rw [str_app0, bytesD_0] at hw1
  obtain ⟨ys, hysd⟩ : ∃ ys, ys = xs.drop 1 := ⟨_, rfl⟩
  rw [← hysd] at hJ hys hyx t2
  clear hysd
  have hwr : ∀ n : Nat, (n : Int) ≤ 9223372036854775807 → IntKind.i64.wrap (n : Int) = n := fun n h => wrap64_in (by omega) h
  by_cases hsep : 0 < sep.size
  ·rw [if_pos hsep] at hst
   have w2 : IntKind.i64.wrap ((sep.size : Int) * ((xs.length : Int) - 1)) = m0 := by rw [← hst]; exact wrap64_in (by omega) (by omega)
   have w3 : IntKind.i64.wrap m0 = m0 := wrap64_in (by omega) (by omega)
   have hdv : ¬ IntKind.i64.wrap ((9223372036854775807 : Int).tdiv ((xs.length : Int) - 1)) ≤ (sep.size : Int) := by
    rw [Int.tdiv_eq_ediv_of_nonneg (by omega)]
    have h4 : (4 : Int) ≤ 9223372036854775807 / ((xs.length : Int) - 1) := Int.le_ediv_of_mul_le (by omega) (by omega)
    have h5 : (9223372036854775807 : Int) / ((xs.length : Int) - 1) ≤ 9223372036854775807 := Int.ediv_le_self _ (by omega)
    rw [wrap64_in (by omega) h5]
    omega
   have hnz : ¬ (xs.length : Int) - 1 = 0 := by omega
   have hsi : (0 : Int) < (sep.size : Int) := by omega
   (refine go1 aj0 aj0 (aj12 @size_e c0 c1 c0b c1b w1 w2 w3 hdv hnz hsep hsi) ?_; intros; refine mk_i ?_)
   refine DW_loop (X := {p : Nat × Nat // p.1 ≤ xs.length ∧ p.2 ≤ 3932160 + 67108864 * p.1 ∧ (0 < p.1 → 1 ≤ p.2)}) (fun p => ⟨[(0, .sl 1 16 (xs.map dStr)), (1, .str sep), (5, .int .i64 p.1.2), (39, .sl 1 16 (xs.map dStr)), (40, .int .i64 xs.length), (41, .int .i64 p.1.1)], []⟩) (fun p => xs.length - p.1.1) ⟨(0, m0.toNat), by simp only; refine ⟨by omega, by omega, by omega⟩⟩ (Sub.lit (by simp; try omega)) ?_
   rintro ⟨⟨k, m⟩, hk, hmb, hm1⟩
   simp only at hk hmb hm1 ⊢
   by_cases hlt : k < xs.length
   ·obtain ⟨x, hxk, hxk', hxm⟩ := at_lt' hlt
    obtain ⟨y1, y2⟩ := hx x hxm
    have q1 : IntKind.i64.wrap (9223372036854775807 - (m : Int)) = 9223372036854775807 - (m : Int) := wrap64_in (by omega) (by omega)
    have q2 : ¬ (9223372036854775807 - (m : Int) < (x.size : Int)) := by omega
    have q3 : IntKind.i64.wrap ((m : Int) + (x.size : Int)) = (m : Int) + (x.size : Int) := wrap64_in (by omega) (by omega)
    (refine go1 aj0 aj0 (aj7 @dStr.eq_1 hlt hxk hxk' q1 q2 q3) ?_; intros; refine mk_i ?_)
    refine Again.mk ⟨(k + 1, m + x.size), show k + 1 ≤ xs.length ∧ m + x.size ≤ 3932160 + 67108864 * (k + 1) ∧ (0 < k + 1 → 1 ≤ m + x.size) from ⟨by omega, by omega, by omega⟩⟩ (Sub.lit (by simp)) (by simp; omega)
    skip
   ·have hkk : k = xs.length := by omega
    subst hkk
    have hg := growFirst_spec m (hm1 (by omega)) (by omega)
    (repeat (first | (refine DW_allocT (bs := 32) (k := 2) (z := [.nilp, .nilsl]) (by simp [hnt]) (by simp) (by rfl) rfl (by decide) (fun _ _ => ?_); simp [hnt, dStr, h0, h0', hlt0, t2, size_e]) | refine DW_seq fun K hK => ?_ | (refine DW_r anWJ3266 Tryz.mixed (by kernel_rfl) ?_; simp [anWJ3266, hnt, dStr, h0, h0', hlt0, t2, size_e]; try simp (disch := omega) only [wrap64_in]) | refine DW_block ?_ | (refine DW_if ?_ ?_ ?_; (· (simp [hnt, dStr, h0, h0', hlt0, t2, size_e]; done)); (try (rotate_left; (· (intro hc; (try simp [hnt, dStr, h0, h0', hlt0, t2, size_e] at hc); done))))) | (refine DW_ret ?_; simp [Tryz.results266, hnt, dStr, h0, h0', hlt0, t2, size_e]) | ((first | refine DW_exit ?_ | refine DW_skip ?_); simp [hnt, dStr, h0, h0', hlt0, t2, size_e]) | (intro hc; (try simp [hnt, dStr, h0, h0', hlt0, t2, size_e] at hc); (try (exfalso; omega))) | (refine callS_mk [(8,0)] [(50,1)] (hg) ?_ ?_; (· (simp [hnt, dStr, h0, h0', hlt0, t2, size_e]; done)); (intro _; try simp [hnt, dStr, h0, h0', hlt0, t2, size_e])) | (refine callS_mk [(8,0),(50,1)] [] (hw1) ?_ ?_; (· (simp [hnt, dStr, h0, h0', hlt0, t2, size_e]; done)); (intro _; try simp [hnt, dStr, h0, h0', hlt0, t2, size_e])) | (refine ⟨?_, ?_⟩; · omega) | omega | apply_assumption -exfalso -symm | (exfalso; omega)))
    refine DW_loop (X := {k : Nat // k ≤ ys.length}) (fun k => ⟨[(1, .str sep), (8, .rx 8 1 2 0 0), (63, .sl 1 16 (ys.map dStr)), (64, .int .i64 ys.length), (65, .int .i64 k.1)], [⟨8, 1, .row 299 2 32 [[.rx 8 1 2 0 0, .osl 50 1]]⟩, ⟨50, 1, .row 5 1 1 (bytesD ((ys.take k.1).foldl (joinF sep) x0))⟩]⟩) (fun k => ys.length - k.1) ⟨0, by omega⟩ (Sub.lit (by simp [t2, hys])) ?_
    rintro ⟨k, hk⟩
    simp only
    by_cases hlt : k < ys.length
    ·obtain ⟨y, hy, hy', hym⟩ := at_lt' hlt
     obtain ⟨j1, j2⟩ := joinK_size sep hs (ys.take k) x0 fun z hz => hyx z (List.mem_of_mem_take hz)
     rw [List.length_take] at j1
     have hst2 := foldl_snoc (f := joinF sep) (b := x0) hy
     have hy9 := hyx y hym
     obtain ⟨T, hT⟩ : ∃ T, T = (ys.take k).foldl (joinF sep) x0 := ⟨_, rfl⟩
     rw [← hT] at j1 j2 hst2 ⊢
     have e1 := writeUsed_spec T sep (by omega)
     have e2 := writeUsed_spec (T ++ sep) y (by rw [ByteArray.size_append]; omega)
     rw [show T ++ sep ++ y = joinF sep T y from rfl, ← hst2] at e2
     (refine go1 aj0 (aj2 (spc [(8,0),(50,1)] [] e1) (spc [(8,0),(50,1)] [] e2)) (aj4 @dStr.eq_1 hlt hy hy') ?_; intros; refine mk_i ?_)
     refine Again.mk ⟨k + 1, by omega⟩ (Sub.lit (by simp)) (by simp; omega)
     skip
    ·have hkk : k = ys.length := by omega
     subst hkk
     rw [List.take_length, ← hJ]
     obtain ⟨j1, j2⟩ := joinK_size sep hs ys x0 hyx
     rw [← hJ] at j1 j2
     have e1 := stringSome_spec J (by omega)
     exact go0 aj0 (aj1 (spc [(8,0),(50,1)] [] e1)) aj0
  ·rw [if_neg hsep] at hst
   (refine go1 aj0 aj0 (aj7 @size_e c0 c1 c0b c1b w1 hsep) ?_; intros; refine mk_i ?_)
   refine DW_loop (X := {p : Nat × Nat // p.1 ≤ xs.length ∧ p.2 ≤ 3932160 + 67108864 * p.1 ∧ (0 < p.1 → 1 ≤ p.2)}) (fun p => ⟨[(0, .sl 1 16 (xs.map dStr)), (1, .str sep), (5, .int .i64 p.1.2), (39, .sl 1 16 (xs.map dStr)), (40, .int .i64 xs.length), (41, .int .i64 p.1.1)], []⟩) (fun p => xs.length - p.1.1) ⟨(0, m0.toNat), by simp only; refine ⟨by omega, by omega, by omega⟩⟩ (Sub.lit (by simp; try omega)) ?_
   rintro ⟨⟨k, m⟩, hk, hmb, hm1⟩
   simp only at hk hmb hm1 ⊢
   by_cases hlt : k < xs.length
   ·obtain ⟨x, hxk, hxk', hxm⟩ := at_lt' hlt
    obtain ⟨y1, y2⟩ := hx x hxm
    have q1 : IntKind.i64.wrap (9223372036854775807 - (m : Int)) = 9223372036854775807 - (m : Int) := wrap64_in (by omega) (by omega)
    have q2 : ¬ (9223372036854775807 - (m : Int) < (x.size : Int)) := by omega
    have q3 : IntKind.i64.wrap ((m : Int) + (x.size : Int)) = (m : Int) + (x.size : Int) := wrap64_in (by omega) (by omega)
    (refine go1 aj0 aj0 (aj7 @dStr.eq_1 hlt hxk hxk' q1 q2 q3) ?_; intros; refine mk_i ?_)
    refine Again.mk ⟨(k + 1, m + x.size), show k + 1 ≤ xs.length ∧ m + x.size ≤ 3932160 + 67108864 * (k + 1) ∧ (0 < k + 1 → 1 ≤ m + x.size) from ⟨by omega, by omega, by omega⟩⟩ (Sub.lit (by simp)) (by simp; omega)
    skip
   ·have hkk : k = xs.length := by omega
    subst hkk
    have hg := growFirst_spec m (hm1 (by omega)) (by omega)
    (repeat (first | (refine DW_allocT (bs := 32) (k := 2) (z := [.nilp, .nilsl]) (by simp [hnt]) (by simp) (by rfl) rfl (by decide) (fun _ _ => ?_); simp [hnt, dStr, h0, h0', hlt0, t2, size_e]) | refine DW_seq fun K hK => ?_ | (refine DW_r anWJ3266 Tryz.mixed (by kernel_rfl) ?_; simp [anWJ3266, hnt, dStr, h0, h0', hlt0, t2, size_e]; try simp (disch := omega) only [wrap64_in]) | refine DW_block ?_ | (refine DW_if ?_ ?_ ?_; (· (simp [hnt, dStr, h0, h0', hlt0, t2, size_e]; done)); (try (rotate_left; (· (intro hc; (try simp [hnt, dStr, h0, h0', hlt0, t2, size_e] at hc); done))))) | (refine DW_ret ?_; simp [Tryz.results266, hnt, dStr, h0, h0', hlt0, t2, size_e]) | ((first | refine DW_exit ?_ | refine DW_skip ?_); simp [hnt, dStr, h0, h0', hlt0, t2, size_e]) | (intro hc; (try simp [hnt, dStr, h0, h0', hlt0, t2, size_e] at hc); (try (exfalso; omega))) | (refine callS_mk [(8,0)] [(50,1)] (hg) ?_ ?_; (· (simp [hnt, dStr, h0, h0', hlt0, t2, size_e]; done)); (intro _; try simp [hnt, dStr, h0, h0', hlt0, t2, size_e])) | (refine callS_mk [(8,0),(50,1)] [] (hw1) ?_ ?_; (· (simp [hnt, dStr, h0, h0', hlt0, t2, size_e]; done)); (intro _; try simp [hnt, dStr, h0, h0', hlt0, t2, size_e])) | (refine ⟨?_, ?_⟩; · omega) | omega | apply_assumption -exfalso -symm | (exfalso; omega)))
    refine DW_loop (X := {k : Nat // k ≤ ys.length}) (fun k => ⟨[(1, .str sep), (8, .rx 8 1 2 0 0), (63, .sl 1 16 (ys.map dStr)), (64, .int .i64 ys.length), (65, .int .i64 k.1)], [⟨8, 1, .row 299 2 32 [[.rx 8 1 2 0 0, .osl 50 1]]⟩, ⟨50, 1, .row 5 1 1 (bytesD ((ys.take k.1).foldl (joinF sep) x0))⟩]⟩) (fun k => ys.length - k.1) ⟨0, by omega⟩ (Sub.lit (by simp [t2, hys])) ?_
    rintro ⟨k, hk⟩
    simp only
    by_cases hlt : k < ys.length
    ·obtain ⟨y, hy, hy', hym⟩ := at_lt' hlt
     obtain ⟨j1, j2⟩ := joinK_size sep hs (ys.take k) x0 fun z hz => hyx z (List.mem_of_mem_take hz)
     rw [List.length_take] at j1
     have hst2 := foldl_snoc (f := joinF sep) (b := x0) hy
     have hy9 := hyx y hym
     obtain ⟨T, hT⟩ : ∃ T, T = (ys.take k).foldl (joinF sep) x0 := ⟨_, rfl⟩
     rw [← hT] at j1 j2 hst2 ⊢
     have e1 := writeUsed_spec T sep (by omega)
     have e2 := writeUsed_spec (T ++ sep) y (by rw [ByteArray.size_append]; omega)
     rw [show T ++ sep ++ y = joinF sep T y from rfl, ← hst2] at e2
     (refine go1 aj0 (aj2 (spc [(8,0),(50,1)] [] e1) (spc [(8,0),(50,1)] [] e2)) (aj4 @dStr.eq_1 hlt hy hy') ?_; intros; refine mk_i ?_)
     refine Again.mk ⟨k + 1, by omega⟩ (Sub.lit (by simp)) (by simp; omega)
     skip
    ·have hkk : k = ys.length := by omega
     subst hkk
     rw [List.take_length, ← hJ]
     obtain ⟨j1, j2⟩ := joinK_size sep hs ys x0 hyx
     rw [← hJ] at j1 j2
     have e1 := stringSome_spec J (by omega)
     exact go0 aj0 (aj1 (spc [(8,0),(50,1)] [] e1)) aj0
end Go.Proofs.YtdgocjbakjamaaaGreat
end

section
namespace Go.Proofs.YtdgocjbakjamaaaGreat
open Go Go.Dm
variable [DMode]
def sgn (k : Int) : ByteArray := if k = 6 then ⟨#[42]⟩ else if k = 7 then ⟨#[43]⟩ else if k = 8 then ⟨#[63]⟩ else ⟨#[]⟩
def btw (k : Int) : ByteArray := if k = 5 then ⟨#[32, 124, 32]⟩ else if k = 4 then ⟨#[32]⟩ else ⟨#[]⟩
def parB (pk k : Int) : Bool := decide (k = 5) || (decide (k = 4) && !decide (pk = 5))
def parT (pk k : Int) (s : ByteArray) : ByteArray := if parB pk k then ⟨#[40]⟩ ++ s ++ ⟨#[41]⟩ else s
mutual
def txtT : RT → ByteArray
 | .mk x ks => if x.k = 1 then ⟨#[37]⟩ else if x.k = 2 ∨ x.k = 3 then x.s else joinB (txtL x.k ks) (btw x.k) ++ sgn x.k
def txtL (pk : Int) : List RT → List ByteArray
 | [] => []
 | t :: ts => parT pk t.x.k (txtT t) :: txtL pk ts
end
theorem txtT_mk (x : Nd) (ks : List RT) : txtT (.mk x ks) = if x.k = 1 then ⟨#[37]⟩ else if x.k = 2 ∨ x.k = 3 then x.s else joinB (txtL x.k ks) (btw x.k) ++ sgn x.k := by rw [txtT]
theorem txtL_cons (pk : Int) (t : RT) (ts : List RT) : txtL pk (t :: ts) = parT pk t.x.k (txtT t) :: txtL pk ts := by rw [txtL]
theorem txtL_nil (pk : Int) : txtL pk [] = [] := by rw [txtL]
theorem txtL_map (pk : Int) : ∀ ts : List RT, txtL pk ts = ts.map fun t => parT pk t.x.k (txtT t)
 | [] => txtL_nil pk
 | t :: ts => by rw [txtL_cons, txtL_map pk ts]; rfl
theorem size1' (a : UInt8) : (⟨#[a]⟩ : ByteArray).size = 1 := rfl
theorem btw_size (k : Int) : (btw k).size ≤ 3 := by unfold btw; split <;> (try split) <;> decide
theorem sgn_size (k : Int) : (sgn k).size ≤ 1 := by
 unfold sgn
 repeat' split
 all_goals decide
theorem parT_size (pk k : Int) (s : ByteArray) : s.size ≤ (parT pk k s).size ∧ (parT pk k s).size ≤ s.size + 2 := by
 unfold parT
 split
 ·rw [ByteArray.size_append, ByteArray.size_append, size1', size1']; omega
 ·omega
theorem join_total (sep : ByteArray) (hs : sep.size ≤ 3) : ∀ (r : List ByteArray) (x : ByteArray), (r.foldl (joinF sep) x).size ≤ x.size + (r.map fun y => y.size + 3).sum ∧ x.size ≤ (r.foldl (joinF sep) x).size
 | [], x => by simp
 | y :: r, x => by
  obtain ⟨h1, h2⟩ := join_total sep hs r (joinF sep x y)
  rw [joinF_size] at h1 h2
  rw [List.foldl_cons, List.map_cons, List.sum_cons]
  omega
theorem joinB_size (xs : List ByteArray) (sep : ByteArray) (hs : sep.size ≤ 3) : (joinB xs sep).size ≤ (xs.map fun y => y.size + 3).sum := by
 cases xs with
 | nil => simp [joinB]; decide
 | cons x r =>
  have := (join_total sep hs r x).1
  show (r.foldl (joinF sep) x).size ≤ _
  rw [List.map_cons, List.sum_cons]
  omega
theorem mayN_leaf {x : Nd} (h : mayN x = true) (hk : x.k = 2 ∨ x.k = 3) : 1 ≤ x.s.size := by
 have hn : ∀ s, nameOK s = true → 1 ≤ s.size := fun s hs => by unfold nameOK at hs; simp only [Bool.and_eq_true, decide_eq_true_eq] at hs; exact hs.1.1
 unfold mayN at h
 rcases hk with hk | hk
 ·rw [if_neg (by omega), if_pos hk] at h
  simp only [Bool.and_eq_true] at h
  exact hn _ h.2.1
 ·rw [if_neg (by omega), if_neg (by omega), if_pos hk] at h
  simp only [Bool.and_eq_true] at h
  exact hn _ h.2.1
theorem mayN_many {x : Nd} (h : mayN x = true) (h1 : ¬ x.k = 1) (h2 : ¬ (x.k = 2 ∨ x.k = 3)) : 1 ≤ x.n := by
 unfold mayN at h
 rw [if_neg h1, if_neg (fun e => h2 (.inl e)), if_neg (fun e => h2 (.inr e))] at h
 repeat' split at h
 all_goals simp only [Bool.and_eq_true, decide_eq_true_eq, Bool.false_eq_true] at h
 all_goals omega
mutual
theorem txt_sizeT : ∀ (t : RT), okT t = true → 1 ≤ (txtT t).size ∧ (txtT t).size + 5 ≤ 24 * (flat t).length
 | .mk x ks, h => by
  obtain ⟨h1, h2, h3⟩ := okT_mk h
  rw [txtT_mk, flat_mk, List.length_cons]
  split
  ·rw [size1']; omega
  ·rename_i k1
   split
   ·rename_i k2
    have := mayN_leaf h1 k2
    have := mayN_size h1
    omega
   ·rename_i k2
    have hn := mayN_many h1 k1 k2
    obtain ⟨s1, s2⟩ := txt_sizeL x.k ks h3
    have hj := joinB_size (txtL x.k ks) (btw x.k) (btw_size _)
    have hg := sgn_size x.k
    rw [ByteArray.size_append]
    refine ⟨?_, by omega⟩
    cases ks with
    | nil => simp at h2; omega
    | cons t ts =>
     have := s2 (parT x.k t.x.k (txtT t)) (by rw [txtL_cons]; exact List.mem_cons_self)
     have h4 := (join_total (btw x.k) (btw_size _) (txtL x.k ts) (parT x.k t.x.k (txtT t))).2
     rw [txtL_cons]
     show 1 ≤ ((txtL x.k ts).foldl (joinF (btw x.k)) (parT x.k t.x.k (txtT t))).size + _
     omega
theorem txt_sizeL : ∀ (pk : Int) (ts : List RT), okL ts = true → ((txtL pk ts).map fun y => y.size + 3).sum ≤ 24 * (flatL ts).length ∧ ∀ y ∈ txtL pk ts, 1 ≤ y.size
 | pk, [], _ => by simp [txtL_nil]
 | pk, t :: ts, h => by
  obtain ⟨h1, h2⟩ := okL_cons h
  obtain ⟨a1, a2⟩ := txt_sizeT t h1
  obtain ⟨b1, b2⟩ := txt_sizeL pk ts h2
  obtain ⟨c1, c2⟩ := parT_size pk t.x.k (txtT t)
  rw [txtL_cons, flatL_cons, List.map_cons, List.sum_cons, List.length_append]
  refine ⟨by omega, fun y hy => ?_⟩
  rcases List.mem_cons.1 hy with rfl | hy
  ·omega
  ·exact b2 y hy
end
end Go.Proofs.YtdgocjbakjamaaaGreat
end

section
namespace Go.Proofs.YtdgocjbakjamaaaGreat
open Go Go.Dm
variable [DMode]
abbrev Str (l : List ByteArray) : Prop := l.Pairwise fun a b => sLess a b = true
theorem strict_ext : ∀ {a b : List ByteArray}, Str a → Str b → (∀ x, x ∈ a ↔ x ∈ b) → a = b
 | [], [], _, _, _ => rfl
 | [], y :: b, _, _, h => by have := (h y).2 List.mem_cons_self; simp at this
 | x :: a, [], _, _, h => by have := (h x).1 List.mem_cons_self; simp at this
 | x :: a, y :: b, ha, hb, h => by
  obtain ⟨ha1, ha2⟩ := List.pairwise_cons.1 ha
  obtain ⟨hb1, hb2⟩ := List.pairwise_cons.1 hb
  have hxy : x = y := by
   rcases List.mem_cons.1 ((h x).1 List.mem_cons_self) with h1 | h1
   ·exact h1
   ·rcases List.mem_cons.1 ((h y).2 List.mem_cons_self) with h2 | h2
    ·exact h2.symm
    ·have := sLess_asym (hb1 x h1); rw [ha1 y h2] at this; simp at this
  subst hxy
  rw [strict_ext ha2 hb2 fun z => ?_]
  constructor
  ·intro hz
   rcases List.mem_cons.1 ((h z).1 (List.mem_cons_of_mem _ hz)) with h1 | h1
   ·subst h1; have := ha1 z hz; rw [sLess_irr] at this; simp at this
   ·exact h1
  ·intro hz
   rcases List.mem_cons.1 ((h z).2 (List.mem_cons_of_mem _ hz)) with h1 | h1
   ·subst h1; have := hb1 z hz; rw [sLess_irr] at this; simp at this
   ·exact h1
theorem bl_lt : ∀ a b : List UInt8, Op.bytesLess a b = true ↔ a < b
 | [], [] => by simp [Op.bytesLess]
 | [], _ :: _ => by simp [Op.bytesLess]
 | _ :: _, [] => by simp [Op.bytesLess]
 | x :: a, y :: b => by
  rw [List.cons_lt_cons_iff]
  simp only [Op.bytesLess, Bool.or_eq_true, Bool.and_eq_true, decide_eq_true_eq, beq_iff_eq, bl_lt a b]
theorem ssort_mem (l : List ByteArray) (x : ByteArray) : x ∈ ssort l ↔ x ∈ l := by
 unfold ssort
 simp only [List.mem_map, (List.mergeSort_perm _ _).mem_iff]
 constructor
 ·rintro ⟨y, ⟨z, hz, rfl⟩, rfl⟩; exact hz
 ·intro h; exact ⟨_, ⟨x, h, rfl⟩, rfl⟩
theorem ssort_sorted (l : List ByteArray) : (ssort l).Pairwise fun a b => sLess b a = false := by
 unfold ssort
 rw [List.pairwise_map]
 have h := List.pairwise_mergeSort (le := fun x y : List UInt8 => decide (x ≤ y)) (by
  intro a b c h1 h2
  simp only [decide_eq_true_eq] at *
  exact List.le_trans h1 h2) (by
  intro a b
  simp only [Bool.or_eq_true, decide_eq_true_eq]
  exact List.le_total a b) (l.map fun s => s.data.toList)
 refine h.imp ?_
 intro a b hab
 simp only [decide_eq_true_eq] at hab
 have : ¬ Op.bytesLess b a = true := fun h => by
  rw [bl_lt] at h
  exact (List.not_lt.2 hab) h
 simpa [sLess] using this
def eqT (a b : ByteArray) : Bool := a == b
theorem compGoS_ok : ∀ {l : List ByteArray} {p : ByteArray}, (p :: l).Pairwise (fun a b => sLess b a = false) → Str (compGo eqT p l) ∧ (∀ x ∈ compGo eqT p l, sLess p x = true) ∧ ∀ x, (x = p ∨ x ∈ compGo eqT p l) ↔ (x = p ∨ x ∈ l)
 | [], p, _ => ⟨.nil, by simp [compGo], by simp [compGo]⟩
 | y :: l, p, h => by
  obtain ⟨h1, h2⟩ := List.pairwise_cons.1 h
  obtain ⟨g1, g2, g3⟩ := compGoS_ok h2
  unfold compGo
  by_cases hyp : y = p
  ·subst hyp
   rw [if_pos (by simp [eqT])]
   refine ⟨g1, g2, fun x => ?_⟩
   rw [g3 x]
   simp only [List.mem_cons]
   constructor
   ·rintro (h | h)
    ·exact .inl h
    ·exact .inr (.inr h)
   ·rintro (h | h | h)
    ·exact .inl h
    ·exact .inl h
    ·exact .inr h
  ·rw [if_neg (by simp [eqT, hyp])]
   have hpy : sLess p y = true := by
    cases hc : sLess p y
    ·exact absurd (sLess_tri hc (h1 y List.mem_cons_self)).symm hyp
    ·rfl
   refine ⟨List.pairwise_cons.2 ⟨g2, g1⟩, fun x hx => ?_, fun x => ?_⟩
   ·rcases List.mem_cons.1 hx with rfl | hx
    ·exact hpy
    ·exact sLess_trans hpy (g2 x hx)
   ·simp only [List.mem_cons]
    rw [g3 x]
def uniqS (l : List ByteArray) : List ByteArray := compL eqT (ssort l)
theorem uniqS_ok (l : List ByteArray) : Str (uniqS l) ∧ ∀ x, x ∈ uniqS l ↔ x ∈ l := by
 unfold uniqS
 have h := ssort_sorted l
 have hm := ssort_mem l
 cases hs : ssort l with
 | nil =>
  rw [hs] at hm
  exact ⟨.nil, by simpa [compL] using hm⟩
 | cons p t =>
  rw [hs] at h hm
  obtain ⟨g1, g2, g3⟩ := compGoS_ok h
  refine ⟨List.pairwise_cons.2 ⟨g2, g1⟩, fun x => ?_⟩
  simp only [compL, List.mem_cons]
  rw [g3 x, ← hm x]
  simp
theorem compGoS_len {α : Type} (e : α → α → Bool) : ∀ (l : List α) (p : α), (compGo e p l).length ≤ l.length
 | [], _ => by simp [compGo]
 | y :: l, p => by
  unfold compGo
  split
  ·have := compGoS_len e l y; simp; omega
  ·have := compGoS_len e l y; simp; omega
theorem uniqS_len (l : List ByteArray) : (uniqS l).length ≤ l.length := by
 unfold uniqS
 have h := ssort_len l
 cases hs : ssort l with
 | nil => simp [compL]
 | cons p t =>
  rw [hs] at h
  have := compGoS_len eqT t p
  simp only [compL, List.length_cons] at h ⊢
  omega
theorem uniq_of {l a : List ByteArray} (ha : Str a) (h : ∀ x, x ∈ a ↔ x ∈ l) : a = uniqS l := by
 obtain ⟨g1, g2⟩ := uniqS_ok l
 exact strict_ext ha g1 fun x => by rw [h x, g2 x]
end Go.Proofs.YtdgocjbakjamaaaGreat
end

section
namespace Go.Proofs.YtdgocjbakjamaaaGreat
open Go Go.Dm
variable [DMode]
attribute [local irreducible] DW callP callS
set_option maxRecDepth 100000
end Go.Proofs.YtdgocjbakjamaaaGreat
end

section
namespace Go
section
variable {F : Fence} {n : Nat} {P : Program} {Q : Exit → Act → World → Prop} {a : Act} {w : World}
end
end Go
namespace Go.Dm
variable [DMode]
def Dscope (Q : Exit → DS → Prop) : Exit → DS → Prop
 | .goto _, _ => False
 | e, s => Q e s
attribute [simp] Dscope
end Go.Dm
end

section
namespace Go.Proofs.YtdgocjbakjamaaaGreat
open Go Go.Dm
variable [DMode]
attribute [local irreducible] DW callP callS
set_option maxRecDepth 100000
end Go.Proofs.YtdgocjbakjamaaaGreat
end

section
namespace Go.Proofs.YtdgocjbakjamaaaGreat
open Go Go.Dm
variable [DMode]
attribute [local irreducible] DW callP callS
set_option maxRecDepth 100000
end Go.Proofs.YtdgocjbakjamaaaGreat
end

section
namespace Go.Proofs.YtdgocjbakjamaaaGreat
open Go Go.Dm
variable [DMode]
attribute [local irreducible] DW callP callS
set_option maxRecDepth 100000
end Go.Proofs.YtdgocjbakjamaaaGreat
end

section
namespace Go.Proofs.YtdgocjbakjamaaaGreat
open Go Go.Dm
variable [DMode]
attribute [local irreducible] DW callP callS
set_option maxRecDepth 100000
def strsD (l : List ByteArray) : List DVal := l.map DVal.str
theorem strsD_cons (x : ByteArray) (l : List ByteArray) : strsD (x :: l) = .str x :: strsD l := rfl
theorem strsD_len (l : List ByteArray) : (strsD l).length = l.length := by simp [strsD]
theorem lookS_none : ∀ {l : List ByteArray} {s : ByteArray}, ¬ s ∈ l → lookI (strsD l) (.str s) = none
 | [], _, _ => rfl
 | x :: l, s, h => by
  have h1 : (s == x) = false := by simp; intro e; exact h (by simp [e])
  have h2 := lookS_none (l := l) (s := s) fun hm => h (List.mem_cons_of_mem _ hm)
  simp [strsD_cons, lookI, cellsK, eqCs, eqC, h1, h2]
theorem lookS_some : ∀ {l : List ByteArray} {s : ByteArray}, s ∈ l → ∃ j, lookI (strsD l) (.str s) = some j ∧ j < l.length
 | [], _, h => by simp at h
 | x :: l, s, h => by
  by_cases h1 : s = x
  ·subst h1; exact ⟨0, by simp [strsD_cons, lookI, cellsK, eqCs, eqC], by simp⟩
  ·obtain ⟨j, h2, h3⟩ := lookS_some (l := l) (s := s) (by simpa [h1] using h)
   have h1b : (s == x) = false := by simpa using h1
   exact ⟨j + 1, by simp [strsD_cons, lookI, cellsK, eqCs, eqC, h1b, h2], by simp; omega⟩
theorem keyStrs (l : List ByteArray) : (strsD l).all (keyOK Tryz.prog 9) = true := by
 induction l with
 | nil => rfl
 | cons p l ih => rw [strsD_cons, List.all_cons, ih]; simp
@[simp] theorem mxL_strs (l : List ByteArray) : mxL (strsD l) = 0 := by
 induction l with
 | nil => rfl
 | cons a l ih => rw [strsD_cons]; simp [mxL, mx, ih]
def oneUp (n : Nat) : List DVal := (List.range n).map fun i : Nat => DVal.int .i64 ((i : Int) + 1)
@[simp] theorem mxL_oneUp (n : Nat) : mxL (oneUp n) = 0 := by
 unfold oneUp
 induction List.range n with
 | nil => rfl
 | cons a l ih => simp [mxL, mx, ih]
end Go.Proofs.YtdgocjbakjamaaaGreat
end

section
namespace Go.Proofs.YtdgocjbakjamaaaGreat
open Go Go.Dm
variable [DMode]
def hStep (out : List ByteArray) (s : ByteArray) : List ByteArray := if s ∈ out then out else out ++ [s]
def headsL (g : List Rul) : List ByteArray := (g.map (·.h)).foldl hStep []
theorem hStep_mem {out : List ByteArray} {s x : ByteArray} : x ∈ hStep out s ↔ x ∈ out ∨ x = s := by
 unfold hStep
 split
 ·rename_i h; exact ⟨.inl, fun hh => by rcases hh with hh | rfl; exact hh; exact h⟩
 ·simp
theorem hFold_mem : ∀ (l out : List ByteArray) (x : ByteArray), x ∈ l.foldl hStep out ↔ x ∈ out ∨ x ∈ l
 | [], out, x => by simp
 | s :: l, out, x => by rw [List.foldl_cons, hFold_mem l, hStep_mem]; simp [or_assoc]
theorem hFold_nodup : ∀ (l out : List ByteArray), out.Nodup → (l.foldl hStep out).Nodup
 | [], out, h => h
 | s :: l, out, h => by
  rw [List.foldl_cons]
  refine hFold_nodup l _ ?_
  unfold hStep
  split
  ·exact h
  ·rename_i hs
   exact List.nodup_append.2 ⟨h, by simp, by rintro a ha b hb rfl; simp at hb; subst hb; exact hs ha⟩
theorem hFold_len : ∀ (l out : List ByteArray), (l.foldl hStep out).length ≤ out.length + l.length
 | [], out => by simp
 | s :: l, out => by
  rw [List.foldl_cons]
  have := hFold_len l (hStep out s)
  have : (hStep out s).length ≤ out.length + 1 := by unfold hStep; split <;> simp
  simp
  omega
theorem headsL_mem {g : List Rul} {x : ByteArray} : x ∈ headsL g ↔ ∃ r ∈ g, r.h = x := by
 unfold headsL; rw [hFold_mem]; simp
theorem headsL_nodup (g : List Rul) : (headsL g).Nodup := hFold_nodup _ _ (by simp)
theorem headsL_len (g : List Rul) : (headsL g).length ≤ g.length := by have := hFold_len (g.map (·.h)) []; unfold headsL; simpa using this
theorem headsL_take {g : List Rul} {i : Nat} {r : Rul} (h : g[i]? = some r) : headsL (g.take (i + 1)) = hStep (headsL (g.take i)) r.h := by
 unfold headsL
 rw [List.take_add_one, h, List.map_append, List.foldl_append]
 rfl
def namesN (k : Int) (l : List Nd) : List ByteArray := (l.filter fun x => decide (x.k = k)).map (·.s)
def namesK (k : Int) (g : List Rul) : List ByteArray := g.flatMap fun r => namesN k r.b
theorem namesN_take {k : Int} {l : List Nd} {i : Nat} {x : Nd} (h : l[i]? = some x) : namesN k (l.take (i + 1)) = namesN k (l.take i) ++ (if x.k = k then [x.s] else []) := by
 unfold namesN
 rw [List.take_add_one, h, List.filter_append, List.map_append]
 by_cases hx : x.k = k <;> simp [hx]
theorem namesK_take {k : Int} {g : List Rul} {i : Nat} {r : Rul} (h : g[i]? = some r) : namesK k (g.take (i + 1)) = namesK k (g.take i) ++ namesN k r.b := by
 unfold namesK
 rw [List.take_add_one, h, List.flatMap_append]
 simp
theorem namesN_len (k : Int) (l : List Nd) : (namesN k l).length ≤ l.length := by
 unfold namesN; rw [List.length_map]; exact List.length_filter_le _ _
def ixS (l : List ByteArray) (s : ByteArray) : Nat := l.findIdx fun x => s == x
theorem ixS_lt {l : List ByteArray} {s : ByteArray} (h : s ∈ l) : ixS l s < l.length := List.findIdx_lt_length_of_exists ⟨s, h, by simp⟩
theorem lookS_ix : ∀ {l : List ByteArray} {s : ByteArray}, s ∈ l → lookI (strsD l) (.str s) = some (ixS l s)
 | [], _, h => by simp at h
 | x :: l, s, h => by
  unfold ixS
  rw [List.findIdx_cons]
  by_cases h1 : s = x
  ·subst h1; simp [strsD_cons, lookI, cellsK, eqCs, eqC]
  ·have h2 := lookS_ix (l := l) (s := s) (by simpa [h1] using h)
   have h1b : (s == x) = false := by simpa using h1
   simp [strsD_cons, lookI, cellsK, eqCs, eqC, h1b, h2, ixS]
structure CM where
 K : List ByteArray
 V : List Int
def cStep (m : CM) (s : ByteArray) : CM := if s ∈ m.K then ⟨m.K, m.V.set (ixS m.K s) (IntKind.i64.wrap (m.V.getD (ixS m.K s) 0 + 1))⟩ else ⟨m.K ++ [s], m.V ++ [1]⟩
def cntL (es : List ByteArray) : CM := es.foldl cStep ⟨[], []⟩
theorem cntL_snoc (es : List ByteArray) (s : ByteArray) : cntL (es ++ [s]) = cStep (cntL es) s := by unfold cntL; rw [List.foldl_append]; rfl
structure CMok (m : CM) (es : List ByteArray) : Prop where
 len : m.K.length = m.V.length
 mem : ∀ s, s ∈ m.K ↔ s ∈ es
 nd : m.K.Nodup
 le : m.K.length ≤ es.length
theorem CMok.step {m : CM} {es : List ByteArray} (h : CMok m es) (s : ByteArray) : CMok (cStep m s) (es ++ [s]) := by
 unfold cStep
 split
 ·rename_i hs
  refine ⟨by simp [h.len], fun x => ?_, h.nd, by have := h.le; simp; omega⟩
  rw [h.mem x, List.mem_append]
  exact ⟨.inl, fun hh => by rcases hh with hh | hh; exact hh; simp at hh; subst hh; exact (h.mem x).1 hs⟩
 ·rename_i hs
  refine ⟨by simp [h.len], fun x => by simp [h.mem x], ?_, by have := h.le; simp; omega⟩
  exact List.nodup_append.2 ⟨h.nd, by simp, by rintro a ha b hb rfl; simp at hb; subst hb; exact hs ha⟩
theorem cnt_ok (es : List ByteArray) : CMok (cntL es) es := by
 have key : ∀ (l : List ByteArray) (m : CM) (es : List ByteArray), CMok m es → CMok (l.foldl cStep m) (es ++ l) := by
  intro l
  induction l with
  | nil => intro m es h; simpa using h
  | cons s l ih =>
   intro m es h
   have := ih (cStep m s) (es ++ [s]) (h.step s)
   simpa using this
 have := key es ⟨[], []⟩ [] ⟨rfl, by simp, by simp, by simp⟩
 simpa [cntL] using this
def labelsL' (g : List Rul) : List ByteArray := uniqS (namesK 3 g)
def missL (g : List Rul) : List ByteArray := (uniqS (namesK 2 g)).filter fun s => !decide (s ∈ headsL g)
theorem miss_len {g : List Rul} {K : List ByteArray} (hn : K.Nodup) (hm : ∀ s, s ∈ K ↔ s ∈ namesK 2 g ∧ ¬ s ∈ headsL g) : K.length = (missL g).length := by
 refine List.Perm.length_eq ((List.perm_ext_iff_of_nodup hn ?_).2 fun s => ?_)
 ·unfold missL
  exact List.Pairwise.filter _ ((uniqS_ok _).1.imp fun {a b} h e => by subst e; rw [sLess_irr] at h; simp at h)
 ·unfold missL
  rw [hm s, List.mem_filter, (uniqS_ok _).2]
  simp
abbrev GT := List (ByteArray × RT)
def mkG (gt : GT) : List Rul := gt.map fun p => ⟨p.1, flat p.2⟩
def OkG (gt : GT) : Prop := ∀ p ∈ gt, txtOK 2 p.1 = true ∧ okT p.2 = true
def treesB (g : List Rul) : Bool := g.all fun r => txtOK 2 r.h && wholeB r.b
theorem trees_gt : ∀ {g : List Rul}, treesB g = true → ∃ gt, g = mkG gt ∧ OkG gt
 | [], _ => ⟨[], rfl, by intro p hp; simp at hp⟩
 | r :: g, h => by
  unfold treesB at h
  rw [List.all_cons, Bool.and_eq_true, Bool.and_eq_true] at h
  obtain ⟨gt, rfl, hg⟩ := trees_gt (g := g) h.2
  obtain ⟨t, ht, hb⟩ := whole_tree h.1.2
  refine ⟨(r.h, t) :: gt, by cases r; simp only at hb; subst hb; rfl, fun p hp => ?_⟩
  rcases List.mem_cons.1 hp with rfl | hp
  ·exact ⟨h.1.1, ht⟩
  ·exact hg p hp
theorem gt_trees {gt : GT} (h : OkG gt) : treesB (mkG gt) = true := by
 unfold treesB mkG
 rw [List.all_map, List.all_eq_true]
 intro p hp
 obtain ⟨h1, h2⟩ := h p hp
 simp [h1, tree_whole h2]
def occG (g : List Rul) : Nat := (g.map fun r => occN r.b).sum
def deepG (gt : GT) : Bool := gt.any fun p => decide (16 < htT p.2)
def ruleT (p : ByteArray × RT) : ByteArray := p.1 ++ ⟨#[32, 61, 32]⟩ ++ txtT p.2 ++ ⟨#[32, 59, 10]⟩
def textG (gt : GT) : ByteArray := gt.foldl (fun s p => s ++ ruleT p) ⟨#[]⟩
theorem textG_take {gt : GT} {i : Nat} {p : ByteArray × RT} (h : gt[i]? = some p) : textG (gt.take (i + 1)) = textG (gt.take i) ++ ruleT p := by
 unfold textG
 rw [List.take_add_one, h, List.foldl_append]
 rfl
theorem textG_take_le (gt : GT) (i : Nat) : (textG (gt.take i)).size ≤ (textG gt).size := by
 have key : ∀ (l : GT) (s : ByteArray), s.size ≤ (l.foldl (fun s p => s ++ ruleT p) s).size := by
  intro l
  induction l with
  | nil => intro s; simp
  | cons p l ih => intro s; rw [List.foldl_cons]; have := ih (s ++ ruleT p); rw [ByteArray.size_append] at this; omega
 unfold textG
 conv => rhs; rw [← List.take_append_drop i gt, List.foldl_append]
 exact key _ _
def codeT (gt : GT) : Int :=
 if 16 < (headsL (mkG gt)).length + (missL (mkG gt)).length then 181
 else if 16 < (labelsL' (mkG gt)).length then 182
 else if 64 < occG (mkG gt) then 183
 else if deepG gt then 171
 else if 0 < (missL (mkG gt)).length then 184
 else if 2048 < (textG gt).size then 174
 else 0
mutual
theorem txt_geT : ∀ (t : RT), okT t = true → (flat t).length ≤ (txtT t).size
 | .mk x ks, h => by
  obtain ⟨h1, h2, h3⟩ := okT_mk h
  rw [txtT_mk, flat_mk, List.length_cons]
  by_cases k1 : x.k = 1
  ·rw [if_pos k1]
   have : x.n = 0 := by
    unfold mayN at h1
    rw [if_pos k1] at h1
    simp only [Bool.and_eq_true, decide_eq_true_eq] at h1
    exact h1.2
   have hks : ks = [] := List.eq_nil_of_length_eq_zero (by omega)
   subst hks
   rw [flatL]
   decide
  ·rw [if_neg k1]
   by_cases k2 : x.k = 2 ∨ x.k = 3
   ·rw [if_pos k2]
    have := mayN_leaf h1 k2
    have hn : x.n = 0 := by
     unfold mayN at h1
     rcases k2 with k2 | k2
     ·rw [if_neg (by omega), if_pos k2] at h1; simp only [Bool.and_eq_true, decide_eq_true_eq] at h1; exact h1.1
     ·rw [if_neg (by omega), if_neg (by omega), if_pos k2] at h1; simp only [Bool.and_eq_true, decide_eq_true_eq] at h1; exact h1.1
    have hks : ks = [] := List.eq_nil_of_length_eq_zero (by omega)
    subst hks
    rw [flatL]
    simp
    omega
   ·rw [if_neg k2, ByteArray.size_append]
    have hj := txt_geL x.k ks h3
    have hn := mayN_many h1 k1 k2
    rcases mayN_kind h1 with k | k | k | k | k | k | k | k
    ·exact absurd k k1
    ·exact absurd (.inl k) k2
    ·exact absurd (.inr k) k2
    ·have hb : 1 ≤ (btw x.k).size := by unfold btw; rw [k]; decide
     have h5 : 2 ≤ x.n := by unfold mayN at h1; simp [k] at h1; exact h1.2
     have := join_ge (btw x.k) (txtL x.k ks) (by rw [txtL_map, List.length_map]; omega)
     rw [txtL_map, List.length_map, ← txtL_map] at this
     have h6 : 1 * (ks.length - 1) ≤ (btw x.k).size * (ks.length - 1) := Nat.mul_le_mul_right _ hb
     omega
    ·have hb : 1 ≤ (btw x.k).size := by unfold btw; rw [k]; decide
     have h5 : 2 ≤ x.n := by unfold mayN at h1; simp [k] at h1; exact h1.2
     have := join_ge (btw x.k) (txtL x.k ks) (by rw [txtL_map, List.length_map]; omega)
     rw [txtL_map, List.length_map, ← txtL_map] at this
     have h6 : 1 * (ks.length - 1) ≤ (btw x.k).size * (ks.length - 1) := Nat.mul_le_mul_right _ hb
     omega
    all_goals
     have hs : (sgn x.k).size = 1 := by unfold sgn; rw [k]; decide
     have := join_ge (btw x.k) (txtL x.k ks) (by rw [txtL_map, List.length_map]; omega)
     omega
theorem txt_geL : ∀ (pk : Int) (ts : List RT), okL ts = true → (flatL ts).length ≤ ((txtL pk ts).map (·.size)).sum
 | pk, [], _ => by simp [flatL]
 | pk, t :: ts, h => by
  obtain ⟨h1, h2⟩ := okL_cons h
  have a := txt_geT t h1
  have b := txt_geL pk ts h2
  have c := (parT_size pk t.x.k (txtT t)).1
  rw [txtL_cons, flatL_cons, List.map_cons, List.sum_cons, List.length_append]
  omega
theorem join_ge (sep : ByteArray) : ∀ (xs : List ByteArray), 1 ≤ xs.length → (xs.map (·.size)).sum + sep.size * (xs.length - 1) ≤ (joinB xs sep).size
 | [], h => by simp at h
 | x :: r, _ => by
  have key : ∀ (r : List ByteArray) (x : ByteArray), x.size + (r.map (·.size)).sum + sep.size * r.length ≤ (r.foldl (joinF sep) x).size := by
   intro r
   induction r with
   | nil => intro x; simp
   | cons y r ih =>
    intro x
    have := ih (joinF sep x y)
    rw [joinF_size] at this
    rw [List.foldl_cons, List.map_cons, List.sum_cons, List.length_cons, Nat.mul_add]
    omega
  have := key r x
  show _ ≤ (r.foldl (joinF sep) x).size
  simp only [List.map_cons, List.sum_cons, List.length_cons, Nat.add_sub_cancel]
  omega
end
theorem ruleT_le {gt : GT} {p : ByteArray × RT} (h : p ∈ gt) : (txtT p.2).size ≤ (textG gt).size := by
 obtain ⟨i, hi, rfl⟩ := List.getElem_of_mem h
 have h1 := textG_take (List.getElem?_eq_getElem hi)
 have h2 := textG_take_le gt (i + 1)
 rw [h1, ByteArray.size_append] at h2
 unfold ruleT at h2
 simp only [ByteArray.size_append] at h2
 omega
end Go.Proofs.YtdgocjbakjamaaaGreat
end

section
namespace Go.Proofs.YtdgocjbakjamaaaGreat
open Go Go.Dm
variable [DMode]
attribute [local irreducible] DW callP callS
set_option maxRecDepth 100000
end Go.Proofs.YtdgocjbakjamaaaGreat
end

section
namespace Go.Proofs.YtdgocjbakjamaaaGreat
open Go Go.Dm
variable [DMode]
attribute [local irreducible] DW callP callS
set_option maxRecDepth 100000
end Go.Proofs.YtdgocjbakjamaaaGreat
end

section
namespace Go.Proofs.YtdgocjbakjamaaaGreat
open Go Go.Dm
variable [DMode]
attribute [local irreducible] DW callP callS
set_option maxRecDepth 100000
structure SmallG (g : Edges) : Prop where
 n1 : g.nodes.length ≤ 32
 n2 : ∀ n ∈ g.nodes, n.size ≤ 16
 e1 : g.edges.length ≤ 256
 e2 : ∀ e ∈ g.edges, e.fr.size ≤ 16 ∧ e.lb.size ≤ 16 ∧ e.to.size ≤ 16
end Go.Proofs.YtdgocjbakjamaaaGreat
end

section
namespace Go.Proofs.YtdgocjbakjamaaaGreat
open Go Go.Dm
variable [DMode]
attribute [local irreducible] DW callP callS
set_option maxRecDepth 100000
end Go.Proofs.YtdgocjbakjamaaaGreat
end

section
namespace Go.Proofs.YtdgocjbakjamaaaGreat
open Go Go.Dm
variable [DMode]
attribute [local irreducible] DW callP callS
set_option maxRecDepth 100000
def anWB12132 : Ann := ⟨[], []⟩
def anWB12132b2 : Ann := ⟨[5], []⟩
theorem cloneS_pure (l : List ByteArray) : DPure Tryz.prog 132 [dStrs l] (dStrs l) := by
 match l with
 | [] =>
  refine DPure_sl [] ?_ ?_
  ·refine DPure_introF [7] (fn := Tryz.f132) Tryz.func132 rfl Tryz.call132 (by simp [Tryz.ntmps132]) (by simp [mx, mxR]) ?_
   intro hwf B hnt
   simp only [Tryz.ntmps132] at hnt
   have hA := an_is anWB12132 Tryz.mixed (aj2 @anWB12132.eq_1 Tryz.results132)
   simp only [argS, List.nil_append, dStrs, List.map_cons]
   exact go0 aj0 aj0 aj0
  ·refine DPure_introF [7, 5] (fn := Tryz.f132) Tryz.func132 rfl Tryz.call132 (by simp [Tryz.ntmps132]) (by simp [mx, mxR]) ?_
   intro hwf B hnt
   simp only [Tryz.ntmps132] at hnt
   have hA := an_is anWB12132b2 Tryz.mixed (aj2 @anWB12132b2.eq_1 Tryz.results132)
   simp only [argS, List.nil_append, dStrs, List.map_cons]
   exact go0 aj0 aj0 aj0
 | s :: l =>
  refine DPure_introF [7, 5] (fn := Tryz.f132) Tryz.func132 rfl Tryz.call132 (by simp [Tryz.ntmps132]) (by simp [mx, mxR]) ?_
  intro hwf B hnt
  simp only [Tryz.ntmps132] at hnt
  have hA := an_is anWB12132b2 Tryz.mixed (aj2 @anWB12132b2.eq_1 Tryz.results132)
  have hsz : (s :: l).length * 16 ≤ 150000000000000 := by have := hwf.1; simp only [wfD, List.length_map] at this; exact this.1
  clear hwf
  have z2 : (s :: l).length ≤ 9223372036854775807 := by omega
  simp only [List.length_cons] at hsz z2
  simp only [argS, List.nil_append, dStrs, List.map_cons]
  exact go0 aj0 aj0 (aj2 hsz z2)
end Go.Proofs.YtdgocjbakjamaaaGreat
end

section
namespace Go.Proofs.YtdgocjbakjamaaaGreat
open Go Go.Dm
variable [DMode]
attribute [local irreducible] DW callP callS
set_option maxRecDepth 100000
def intsV (l : List Int) : List DVal := l.map fun n => .int .i64 n
theorem intsV_set (l : List Int) (j : Nat) (n : Int) : (intsV l).set j (.int .i64 n) = intsV (l.set j n) := by simp [intsV, List.map_set]
theorem intsV_app (l : List Int) (n : Int) : intsV l ++ [.int .i64 n] = intsV (l ++ [n]) := by simp [intsV]
@[simp] theorem mxL_ints (l : List Int) : mxL (intsV l) = 0 := by
 unfold intsV
 induction l with
 | nil => rfl
 | cons a l ih => simp [mxL, mx, ih]
structure Cnt (K : List ByteArray) (V : List Int) (es : List ByteArray) : Prop where
 len : K.length = V.length
 mem : ∀ s, s ∈ K ↔ s ∈ es
 val : ∀ v ∈ V, 1 ≤ v ∧ v ≤ es.length
theorem strsD_app (l : List ByteArray) (s : ByteArray) : strsD l ++ [.str s] = strsD (l ++ [s]) := by simp [strsD]
theorem Cnt.step {K : List ByteArray} {V : List Int} {es : List ByteArray} (h : Cnt K V es) (s : ByteArray) :
  (∃ j d, lookI (strsD K) (.str s) = some j ∧ (intsV V)[j]? = some (.int .i64 d) ∧ 1 ≤ d ∧ d ≤ es.length ∧ Cnt K (V.set j (d + 1)) (es ++ [s])) ∨
  (lookI (strsD K) (.str s) = none ∧ Cnt (K ++ [s]) (V ++ [1]) (es ++ [s])) := by
 by_cases hs : s ∈ K
 ·obtain ⟨j, h1, h2⟩ := lookS_some hs
  have h3 : j < V.length := by rw [← h.len]; exact h2
  have hv := h.val V[j] (List.getElem_mem h3)
  refine .inl ⟨j, V[j], h1, by simp [intsV, h3], hv.1, hv.2, by simp [h.len], fun x => ?_, fun v hv' => ?_⟩
  ·rw [h.mem x, List.mem_append]
   constructor
   ·exact .inl
   ·rintro (hx | hx)
    ·exact hx
    ·simp only [List.mem_singleton] at hx
     subst hx
     exact (h.mem x).1 hs
  ·rcases List.mem_or_eq_of_mem_set hv' with h4 | rfl
   ·have := h.val v h4; simp; omega
   ·simp; omega
 ·refine .inr ⟨lookS_none hs, by simp [h.len], fun x => by simp [h.mem x], fun v hv => ?_⟩
  rcases List.mem_append.1 hv with h4 | h4
  ·have := h.val v h4; simp; omega
  ·simp only [List.mem_singleton] at h4
   subst h4
   simp
   omega
end Go.Proofs.YtdgocjbakjamaaaGreat
end

section
namespace Go.Dm
variable [DMode]
def simpD : DVal → Bool
 | .bool _ => true
 | .int _ _ => true
 | .str _ => true
 | .nilp => true
 | .nilsl => true
 | .any => true
 | _ => false
theorem rd_simp {d : DVal} (hd : simpD d = true) {cur cur' : Cur} {M M' : List Nat} {h h' : Array Obj} {v : Value} (hr : rd cur M h d v) : rd cur' M' h' d v := by
 cases d <;> simp only [simpD, Bool.false_eq_true] at hd <;> simp only [rd] at hr ⊢ <;> exact hr
theorem rdV_simp : ∀ {ds : List DVal} (hd : ds.all simpD = true) {cur cur' : Cur} {M M' : List Nat} {h h' : Array Obj} {vs : List Value} (_ : rdV cur M h ds vs), rdV cur' M' h' ds vs
 | [], _, _, _, _, _, _, _, vs, hr => by simpa only [rdV] using hr
 | d :: ds, hd, _, _, _, _, _, _, vs, hr => by
  rw [List.all_cons, Bool.and_eq_true] at hd
  simp only [rdV] at hr ⊢
  obtain ⟨v, r, rfl, h1, h2⟩ := hr
  exact ⟨v, r, rfl, rd_simp hd.1 h1, rdV_simp hd.2 h2⟩
def simpT : DVal → Bool
 | .tup ds => ds.all simpD
 | .agg ds => ds.all simpD
 | d => simpD d
theorem rd_simpT {d : DVal} (hd : simpT d = true) {cur cur' : Cur} {M M' : List Nat} {h h' : Array Obj} {v : Value} (hr : rd cur M h d v) : rd cur' M' h' d v := by
 cases d
 case tup ds =>
  simp only [simpT] at hd
  simp only [rd] at hr ⊢
  obtain ⟨us, rfl, h1⟩ := hr
  exact ⟨us, rfl, rdV_simp hd h1⟩
 case agg ds =>
  simp only [simpT] at hd
  simp only [rd] at hr ⊢
  obtain ⟨us, rfl, h1⟩ := hr
  exact ⟨us, rfl, rdV_simp hd h1⟩
 all_goals exact rd_simp (by simpa only [simpT] using hd) hr
theorem DSpec_lend {P : Program} {f : FuncId} {k bs : Nat} {et : TypeId} {es : List (List DVal)} {rest : List DVal} {d : DVal} (hd : simpT d = true) (hp : DPure P f (.sl k bs es :: rest) d) :
  DSpec P (.func f) (.osl 0 0 :: rest) [⟨0, 0, .row et k bs es⟩] d [⟨0, 0, .row et k bs es⟩] := by
 obtain ⟨hen, _, hc⟩ := hp
 refine ⟨by simp, hen, fun M w loc vs S hr => ⟨hen, ?_⟩⟩
 simp only [rdV] at hr
 obtain ⟨v0, r0, hvs, h0, hrest⟩ := hr
 simp only [rd] at h0
 have hv0 := h0 (loc 0) rfl
 have hk := S.ok ⟨0, 0, .row et k bs es⟩ (by simp)
 have hap := S.ap
 have W : Weak (curOf [(⟨0, 0, .row et k bs es⟩ : Ent)] loc) (curOf [(⟨0, 0, .row et k bs es⟩ : Ent)] loc) (hotOf [(⟨0, 0, .row et k bs es⟩ : Ent)] loc ++ M) M w.heap w.heap (max (mxR es) (mxL rest)) :=
  ⟨fun _ _ _ _ h => h, fun _ _ _ _ h => h, fun b _ hb _ _ hm => hb (List.mem_append_right _ hm)⟩
 refine (hc (curOf [(⟨0, 0, .row et k bs es⟩ : Ent)] loc) M w vs (fun b hb => S.lt b (List.mem_append_right _ hb)) ?_).mono ?_
 ·rw [hvs]
  simp only [rdV]
  refine ⟨v0, r0, rfl, ?_, rdV_weak W _ _ (by omega) hrest⟩
  simp only [rd]
  obtain ⟨hz, h⟩ := hk
  rcases h with ⟨he, _, h2⟩ | ⟨b, arr, cap, h1, h2, h3, h4, h5, h6, h7⟩
  ·subst he
   rw [hv0, h2]
   exact ⟨none, 0, by simp, by simp, by simp, hz, .inl ⟨rfl, fun _ => rfl⟩⟩
  ·rw [hv0, h2]
   refine ⟨some ⟨b, 0, none⟩, cap, rfl, h4, h5, hz, .inr ⟨b, 0, arr, et, (0, 0), rfl, hap b ?_, h3, rdR_weak W k es arr 0 (by omega) h7⟩⟩
   simp [hotOf, h1]
 ·rintro e w' ⟨v, rfl, hu, hrd⟩
  exact ⟨v, rfl, loc, S.keep hu, hu.nil, fun b hb => .inl hb, fun e he _ => curOf_self S.nd he, rd_simpT hd hrd⟩
theorem DW_nilS {P : Program} {B : Base} {Q : Exit → DS → Prop} {s : DS} {x : Code} (i k bs : Nat) (h : getS s.slots i = .nilsl) (hw : DW P B x Q ⟨(i, .sl k bs []) :: s.slots, s.own⟩) : DW P B x Q s := by
 refine DW_sub (s' := ⟨(i, .sl k bs []) :: s.slots, s.own⟩) (fun a w loc R => ⟨loc, R.st, R.upd, R.new, R.ver, fun j => ?_, R.nt, R.df⟩) hw
 simp only [getS]
 split
 ·rename_i hj
  subst hj
  have := R.sl j
  rw [h] at this
  simp only [rd] at this ⊢
  rw [this]
  exact ⟨none, 0, by simp, by simp, by simp, by simp, .inl ⟨by simp, fun _ => rfl⟩⟩
 ·exact R.sl j
end Go.Dm
end

