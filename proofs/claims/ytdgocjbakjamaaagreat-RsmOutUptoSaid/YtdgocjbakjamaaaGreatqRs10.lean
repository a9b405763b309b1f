/- Parts of a proof, laid together: RB6, BP1, RB7, RB8, BX4, BX6, RB9, BX2, RB10, RS0, RS1, RS2, RS3, RS4, RS5, RS6, RS7, RS8. -/
import Derived.Test.YtdgocjbakjamaaaGreatqRs5
import Derived.Test.YtdgocjbakjamaaaGreatqRs7
import Derived.Test.YtdgocjbakjamaaaGreatqRs8
import Derived.Test.YtdgocjbakjamaaaGreatqRs9
set_option linter.unusedSimpArgs false
set_option linter.unusedVariables false
set_option linter.unusedSectionVars false
section
namespace Go.Proofs.YtdgocjbakjamaaaGreat
open Go Go.Dm
variable [DMode]
attribute [local irreducible] DW callP callS
set_option maxRecDepth 100000
theorem insC_len {α : Type} (c : α → α → Int) : ∀ (l : List α) (p : α), (insC c l p).length ≤ l.length + 1
 | [], p => by simp [insC]
 | x :: l, p => by
  have := insC_len c l p
  unfold insC
  split
  ·simp; omega
  ·split
   ·simp
   ·simp
def insA (Z E : List Arc) : List Arc := E.foldl (insC arcC) Z
theorem insA_nil (Z : List Arc) : insA Z [] = Z := rfl
theorem insA_app (Z E F : List Arc) : insA Z (E ++ F) = insA (insA Z E) F := by unfold insA; rw [List.foldl_append]
theorem insA_len (Z : List Arc) : ∀ E : List Arc, (insA Z E).length ≤ Z.length + E.length := by
 intro E
 induction E generalizing Z with
 | nil => simp [insA]
 | cons x E ih =>
  have h1 := ih (insC arcC Z x)
  have h2 := insC_len arcC Z x
  have h3 : insA Z (x :: E) = insA (insC arcC Z x) E := rfl
  rw [h3, List.length_cons]
  omega
def oneA (b : Bool) (x : Arc) : List Arc := if b = true then [x] else []
theorem oneA_len (b : Bool) (x : Arc) : (oneA b x).length ≤ 1 := by unfold oneA; split <;> simp
def rowA (sy : Nd → Sym) (ah : Nat) (t : RT) (q : Nat) (ps : List Nat) : List Arc := ps.flatMap fun p => oneA (foT t 0 p q) ⟨(num (flat t) ah p : Int), sy (nd (flat t) q), (num (flat t) ah q : Int)⟩
theorem rowA_snoc (sy : Nd → Sym) (ah : Nat) (t : RT) (q : Nat) (ps : List Nat) (p : Nat) : rowA sy ah t q (ps ++ [p]) = rowA sy ah t q ps ++ oneA (foT t 0 p q) ⟨(num (flat t) ah p : Int), sy (nd (flat t) q), (num (flat t) ah q : Int)⟩ := by simp [rowA]
theorem rowA_nil (sy : Nd → Sym) (ah : Nat) (t : RT) (q : Nat) : rowA sy ah t q [] = [] := rfl
theorem rowA_len (sy : Nd → Sym) (ah : Nat) (t : RT) (q : Nat) : ∀ ps : List Nat, (rowA sy ah t q ps).length ≤ ps.length
 | [] => by simp [rowA]
 | p :: ps => by
  have h1 : rowA sy ah t q (p :: ps) = oneA (foT t 0 p q) ⟨(num (flat t) ah p : Int), sy (nd (flat t) q), (num (flat t) ah q : Int)⟩ ++ rowA sy ah t q ps := rfl
  have h2 := oneA_len (foT t 0 p q) ⟨(num (flat t) ah p : Int), sy (nd (flat t) q), (num (flat t) ah q : Int)⟩
  have h3 := rowA_len sy ah t q ps
  rw [h1, List.length_append, List.length_cons]
  omega
theorem arcsQ_eq (sy : Nd → Sym) (ah : Nat) (t : RT) (q : Nat) : arcsQ sy ah t q = oneA (bgT t 0 q) ⟨0, sy (nd (flat t) q), (num (flat t) ah q : Int)⟩ ++ rowA sy ah t q (plN (flat t) (flat t).length) := rfl
def bodyA (sy : Nd → Sym) (ah : Nat) (t : RT) (ps : List Nat) : List Arc := ps.flatMap (arcsQ sy ah t)
theorem bodyA_snoc (sy : Nd → Sym) (ah : Nat) (t : RT) (ps : List Nat) (q : Nat) : bodyA sy ah t (ps ++ [q]) = bodyA sy ah t ps ++ arcsQ sy ah t q := by simp [bodyA]
theorem bodyA_nil (sy : Nd → Sym) (ah : Nat) (t : RT) : bodyA sy ah t [] = [] := rfl
theorem bodyA_len (sy : Nd → Sym) (ah : Nat) (t : RT) (h : (plN (flat t) (flat t).length).length ≤ 64) : ∀ ps : List Nat, (bodyA sy ah t ps).length ≤ 65 * ps.length
 | [] => by simp [bodyA]
 | q :: ps => by
  have h1 : bodyA sy ah t (q :: ps) = arcsQ sy ah t q ++ bodyA sy ah t ps := rfl
  have h3 := bodyA_len sy ah t h ps
  have h4 := oneA_len (bgT t 0 q) ⟨0, sy (nd (flat t) q), (num (flat t) ah q : Int)⟩
  have h5 := rowA_len sy ah t q (plN (flat t) (flat t).length)
  rw [h1, arcsQ_eq, List.length_append, List.length_append, List.length_cons]
  omega
def syG (g : List Rul) : Nd → Sym := symS (headsL g) (labelsL' g)
def anRB679 : Ann := ⟨[], [⟨5, [11], [], []⟩]⟩
set_option maxHeartbeats 8000000 in
theorem add79_pure (g : List Rul) (t : RT) (ah : Nat) (Z : List Arc) (ht : okT t = true) (hs : (flat t).length ≤ 2048) (h64 : ah + (lvs (flat t)).length ≤ 64) (hn : ((namesK 3 g).length + 1) * 16 ≤ 150000000000000) (hZ : (Z.length + 5000) * 32 ≤ 150000000000000) :
  DPure Tryz.prog 79 [dRuls g, dNds (flat t), .int .i64 ah, dArcs Z] (dArcs (insA Z (bodyA (syG g) ah t (plN (flat t) (flat t).length)))) := by
 obtain ⟨l, hl⟩ : ∃ l, l = flat t := ⟨_, rfl⟩
 have ep := places80_pure l
 have hpl : (plN l l.length).length ≤ 64 := by
  rw [plN_len (Nat.le_refl _), rkN_all, hl]
  omega
 have hprk : ∀ j p, (plN l l.length)[j]? = some p → rkN l p = j := fun j p h => plN_rank (Nat.le_refl _) h
 have hpin : ∀ p ∈ plN l l.length, ∃ x, l[p]? = some x := fun p h => by
  obtain ⟨x, hx, _⟩ := mem_plN.1 h
  exact ⟨x, hx⟩
 have eS := fun x => rsym147_pure g x hn
 have hat : At (flat t) 0 t := At.top ht
 have eB : ∀ q : Nat, DPure Tryz.prog 148 [dNds l, .int .i64 0, .int .i64 q] (.bool (bgT t 0 q)) := fun q => by rw [hl]; exact begins148_pure q _ t (flat t) 0 rfl hat (by omega)
 have eF : ∀ p q : Nat, DPure Tryz.prog 150 [dNds l, .int .i64 0, .int .i64 p, .int .i64 q] (.bool (foT t 0 p q)) := fun p q => by rw [hl]; exact follows150_pure p q _ t (flat t) 0 rfl hat (by omega)
 have hbl := bodyA_len (syG g) ah t (by rw [← hl]; exact hpl)
 have hrl := rowA_len (syG g) ah t
 have hrs := rowA_snoc (syG g) ah t
 have hbs := bodyA_snoc (syG g) ah t
 have hq := arcsQ_eq (syG g) ah t
 rw [← hl] at hq
 simp only [← hl] at hrs
 rw [← hl]
 obtain ⟨ps, hps⟩ : ∃ ps, ps = plN l l.length := ⟨_, rfl⟩
 rw [← hps] at ep hpl hprk hpin hq ⊢
 clear hps hat
 obtain ⟨R, hR⟩ : ∃ R, R = insA Z (bodyA (syG g) ah t ps) := ⟨_, rfl⟩
 rw [← hR]
 refine DPure_introF [] (fn := Tryz.f79) Tryz.func79 rfl Tryz.call79 (by simp [Tryz.ntmps79]) (by simp [mx]) ?_
 intro hwf B hnt
 simp only [Tryz.ntmps79] at hnt
 have hA := an_is anRB679 Tryz.mixed (aj2 @anRB679.eq_1 Tryz.results79)
 clear hwf
 simp only [argS]
 (refine go1 (aj1 ep) aj0 aj0 ?_; intros; refine mk_i ?_)
 refine DW_loop (X := {j : Nat // j ≤ ps.length}) (fun j => ⟨[(0, dRuls g), (1, dNds l), (2, .int .i64 ah), (3, dArcs (insA Z (bodyA (syG g) ah t (ps.take j.1)))), (9, dNats ps), (10, .int .i64 j.1)], []⟩) (fun j => ps.length - j.1) ⟨0, by omega⟩ (Sub.lit (by simp [bodyA_nil, insA_nil])) ?_
 rintro ⟨j, hj⟩
 simp only
 by_cases hlt : j < ps.length
 ·obtain ⟨q, hq0, hq0', hqm⟩ := at_lt' hlt
  obtain ⟨x, hx⟩ := hpin q hqm
  have hx' := (List.getElem?_eq_some_iff.1 hx).2
  have hxl := (List.getElem?_eq_some_iff.1 hx).1
  have hrk := hprk j q hq0
  have hnum : (num l ah q : Int) = (ah : Int) + (j : Int) + 1 := by unfold num; omega
  have hnd := nd_at hx
  have e1 := eS x
  have e2 := eB q
  have hb1 := hbs (ps.take j) q
  rw [← take_snoc hq0, hq q] at hb1
  rw [hl] at hnd hnum
  have hlen := insA_len Z (bodyA (syG g) ah t (ps.take j))
  have hbl1 := hbl (ps.take j)
  rw [List.length_take] at hbl1
  obtain ⟨y, hy⟩ : ∃ y, y = symS (headsL g) (labelsL' g) x := ⟨_, rfl⟩
  have hyx : syG g x = y := hy.symm
  rw [← hy] at e1
  simp only [dNd, dSym] at e1
  obtain ⟨N, hN⟩ : ∃ N : Int, N = (ah : Int) + (j : Int) + 1 := ⟨_, rfl⟩
  have hwj1 : IntKind.i64.wrap ((ah : Int) + (j : Int)) = (ah : Int) + (j : Int) := wrap64_in (by omega) (by omega)
  have hwj2 : IntKind.i64.wrap ((ah : Int) + (j : Int) + 1) = N := by rw [hN]; exact wrap64_in (by omega) (by omega)
  rw [← hl] at hnd hnum
  have hin0 := insA_app Z (bodyA (syG g) ah t (ps.take j))
  obtain ⟨Z0, hZ0⟩ : ∃ Z0, Z0 = insA Z (bodyA (syG g) ah t (ps.take j)) := ⟨_, rfl⟩
  rw [← hZ0] at hlen hin0 ⊢
  have e3 := insertA_pure Z0 ⟨0, y, (ah : Int) + (j : Int) + 1⟩ (by omega)
  simp only [dArc] at e3
  rw [← hN] at e3
  rw [hnd, hyx, hnum, ← hN] at hb1
  cases hd0 : bgT t 0 q
  ·rw [hd0] at e2 hb1
   obtain ⟨Z1, hZc⟩ : ∃ Z1, Z1 = Z0 := ⟨_, rfl⟩
   have hl1 : Z1.length ≤ Z0.length + 1 := by rw [hZc]; omega
   have hZ1 : insA Z1 (rowA (syG g) ah t q ps) = insA Z (bodyA (syG g) ah t (ps.take (j + 1))) := by rw [hb1, hin0, insA_app, hZc]; rfl
   (refine go1 (aj2 e1 e2) aj0 (aj10 @dNd.eq_1 hlt hq0 hq0' hx hx' hxl @natD.eq_1 hwj1 hwj2) ?_; intros; refine mk_i ?_)
   refine DW_loop (X := {i : Nat // i ≤ ps.length}) (fun i => ⟨[(0, dRuls g), (1, dNds l), (2, .int .i64 ah), (3, dArcs (insA Z1 (rowA (syG g) ah t q (ps.take i.1)))), (9, dNats ps), (10, .int .i64 j), (11, .ref (dSym y)), (13, .int .i64 N), (14, .int .i64 i.1)], []⟩) (fun i => ps.length - i.1) ⟨0, by omega⟩ (Sub.lit (by simp [rowA_nil, insA_nil, dSym, ← hZc])) ?_
   rintro ⟨i, hi⟩
   simp only
   by_cases hlt2 : i < ps.length
   ·obtain ⟨p, hp0, hp0', hpm⟩ := at_lt' hlt2
    have hrk2 := hprk i p hp0
    have hnum2 : (num l ah p : Int) = (ah : Int) + (i : Int) + 1 := by unfold num; omega
    have e4 := eF p q
    have hb2 := hrs q (ps.take i) p
    rw [← take_snoc hp0, hnd, hyx, hnum, hnum2] at hb2
    have hl2 := insA_len Z1 (rowA (syG g) ah t q (ps.take i))
    have hrl1 := hrl q (ps.take i)
    rw [List.length_take] at hrl1
    have hin := insA_app Z1 (rowA (syG g) ah t q (ps.take i))
    obtain ⟨Z2, hZ2⟩ : ∃ Z2, Z2 = insA Z1 (rowA (syG g) ah t q (ps.take i)) := ⟨_, rfl⟩
    rw [← hZ2] at hl2 hin ⊢
    have e5 := insertA_pure Z2 ⟨(ah : Int) + (i : Int) + 1, y, (ah : Int) + (j : Int) + 1⟩ (by omega)
    have hwi1 : IntKind.i64.wrap ((ah : Int) + (i : Int)) = (ah : Int) + (i : Int) := wrap64_in (by omega) (by omega)
    have hwi2 : IntKind.i64.wrap ((ah : Int) + (i : Int) + 1) = (ah : Int) + (i : Int) + 1 := wrap64_in (by omega) (by omega)
    simp only [dArc] at e5
    rw [← hN] at e5 hb2
    cases hd : foT t 0 p q
    ·rw [hd] at e4 hb2
     have h9 : insA Z1 (rowA (syG g) ah t q (ps.take (i + 1))) = Z2 := by rw [hb2, hin]; rfl
     (refine go1 (aj2 e4 e5) aj0 (aj7 hlt2 hp0 hp0' hq0 hq0' hlt @natD.eq_1) ?_; intros; refine mk_i ?_)
     refine Again.mk ⟨i + 1, by omega⟩ (Sub.lit (by simp [h9])) (by simp; omega)
     skip
    ·rw [hd] at e4 hb2
     have h9 : insA Z1 (rowA (syG g) ah t q (ps.take (i + 1))) = insC arcC Z2 ⟨(ah : Int) + (i : Int) + 1, y, N⟩ := by rw [hb2, hin]; rfl
     (refine go1 (aj2 e4 e5) aj0 (aj10 hlt2 hp0 hp0' hq0 hq0' hlt @natD.eq_1 hwi1 hwi2 @dSym.eq_1) ?_; intros; refine mk_i ?_)
     refine Again.mk ⟨i + 1, by omega⟩ (Sub.lit (by simp [h9])) (by simp; omega)
     skip
   ·have hkk : i = ps.length := by omega
    subst hkk
    rw [List.take_length, hZ1]
    (refine go1 aj0 aj0 aj0 ?_; intros; refine mk_i ?_)
    refine Again.mk ⟨j + 1, by omega⟩ (Sub.lit (by simp)) (by simp; omega)
    skip
  ·rw [hd0] at e2 hb1
   obtain ⟨Z1, hZc⟩ : ∃ Z1, Z1 = insC arcC Z0 ⟨0, y, N⟩ := ⟨_, rfl⟩
   have hl1 : Z1.length ≤ Z0.length + 1 := by rw [hZc]; exact insC_len _ _ _
   have hZ1 : insA Z1 (rowA (syG g) ah t q ps) = insA Z (bodyA (syG g) ah t (ps.take (j + 1))) := by rw [hb1, hin0, insA_app, hZc]; rfl
   (refine go1 (aj3 e1 e2 e3) aj0 (aj11 @dNd.eq_1 @dSym.eq_1 hlt hq0 hq0' hx hx' hxl @natD.eq_1 hwj1 hwj2) ?_; intros; refine mk_i ?_)
   refine DW_loop (X := {i : Nat // i ≤ ps.length}) (fun i => ⟨[(0, dRuls g), (1, dNds l), (2, .int .i64 ah), (3, dArcs (insA Z1 (rowA (syG g) ah t q (ps.take i.1)))), (9, dNats ps), (10, .int .i64 j), (11, .ref (dSym y)), (13, .int .i64 N), (14, .int .i64 i.1)], []⟩) (fun i => ps.length - i.1) ⟨0, by omega⟩ (Sub.lit (by simp [rowA_nil, insA_nil, dSym, ← hZc])) ?_
   rintro ⟨i, hi⟩
   simp only
   by_cases hlt2 : i < ps.length
   ·obtain ⟨p, hp0, hp0', hpm⟩ := at_lt' hlt2
    have hrk2 := hprk i p hp0
    have hnum2 : (num l ah p : Int) = (ah : Int) + (i : Int) + 1 := by unfold num; omega
    have e4 := eF p q
    have hb2 := hrs q (ps.take i) p
    rw [← take_snoc hp0, hnd, hyx, hnum, hnum2] at hb2
    have hl2 := insA_len Z1 (rowA (syG g) ah t q (ps.take i))
    have hrl1 := hrl q (ps.take i)
    rw [List.length_take] at hrl1
    have hin := insA_app Z1 (rowA (syG g) ah t q (ps.take i))
    obtain ⟨Z2, hZ2⟩ : ∃ Z2, Z2 = insA Z1 (rowA (syG g) ah t q (ps.take i)) := ⟨_, rfl⟩
    rw [← hZ2] at hl2 hin ⊢
    have e5 := insertA_pure Z2 ⟨(ah : Int) + (i : Int) + 1, y, (ah : Int) + (j : Int) + 1⟩ (by omega)
    have hwi1 : IntKind.i64.wrap ((ah : Int) + (i : Int)) = (ah : Int) + (i : Int) := wrap64_in (by omega) (by omega)
    have hwi2 : IntKind.i64.wrap ((ah : Int) + (i : Int) + 1) = (ah : Int) + (i : Int) + 1 := wrap64_in (by omega) (by omega)
    simp only [dArc] at e5
    rw [← hN] at e5 hb2
    cases hd : foT t 0 p q
    ·rw [hd] at e4 hb2
     have h9 : insA Z1 (rowA (syG g) ah t q (ps.take (i + 1))) = Z2 := by rw [hb2, hin]; rfl
     (refine go1 (aj2 e4 e5) aj0 (aj7 hlt2 hp0 hp0' hq0 hq0' hlt @natD.eq_1) ?_; intros; refine mk_i ?_)
     refine Again.mk ⟨i + 1, by omega⟩ (Sub.lit (by simp [h9])) (by simp; omega)
     skip
    ·rw [hd] at e4 hb2
     have h9 : insA Z1 (rowA (syG g) ah t q (ps.take (i + 1))) = insC arcC Z2 ⟨(ah : Int) + (i : Int) + 1, y, N⟩ := by rw [hb2, hin]; rfl
     (refine go1 (aj2 e4 e5) aj0 (aj10 hlt2 hp0 hp0' hq0 hq0' hlt @natD.eq_1 hwi1 hwi2 @dSym.eq_1) ?_; intros; refine mk_i ?_)
     refine Again.mk ⟨i + 1, by omega⟩ (Sub.lit (by simp [h9])) (by simp; omega)
     skip
   ·have hkk : i = ps.length := by omega
    subst hkk
    rw [List.take_length, hZ1]
    (refine go1 aj0 aj0 aj0 ?_; intros; refine mk_i ?_)
    refine Again.mk ⟨j + 1, by omega⟩ (Sub.lit (by simp)) (by simp; omega)
    skip
 ·have hkk : j = ps.length := by omega
  subst hkk
  rw [List.take_length, ← hR]
  exact go0 aj0 aj0 aj0
end Go.Proofs.YtdgocjbakjamaaaGreat
end

section
namespace Go.Proofs.YtdgocjbakjamaaaGreat
open Go Go.Dm Go.Shelf
variable [DMode]
attribute [local irreducible] DW callP callS
set_option maxRecDepth 100000
abbrev autoZ : DVal := .agg [.int .i64 0, .nilsl, .nilsl]
abbrev dBodies (ls : List (List Nd)) : DVal := .sl 1 24 (ls.map rowB)
theorem compactA_sp (l : List Arc) : DSpec Tryz.prog (.func 76) [.osl 0 0] [⟨0, 0, .row 49 4 32 (l.map dArc)⟩] (dArcs (compL (fun x y => arcC x y == 0) l)) [] := compactA_spec l
theorem sortN_spec (l : List Nat) : DSpec Tryz.prog (.func 75) [.osl 0 0] [⟨0, 0, .row 3 1 8 (l.map natD)⟩] (.tup []) [⟨0, 0, .row 3 1 8 ((isort (l.map toI)).map dNum)⟩] := by
 have h := sortInts_spec (l.map toI)
 rw [List.map_map] at h
 exact h
structure BoxR (H L : List ByteArray) (ls : List (List Nd)) (R : DVal) : Prop where
 a : errF ls ≠ 0 → R = .tup [autoZ, .int .i64 (errF ls)]
 b : errF ls = 0 → ls.any (bad4 H L) = true → R = .tup [autoZ, .int .i64 4]
 c : errF ls = 0 → ls.any (bad4 H L) = false → 64 < occS ls → R = .tup [autoZ, .int .i64 183]
 d : errF ls = 0 → ∀ ts, ls = ts.map flat → (∀ t ∈ ts, okT t = true ∧ (flat t).length ≤ 2048) → ls.any (bad4 H L) = false → occS ls ≤ 64 → R = .tup [boxF H L ts, .int .i64 0]
def anBP115 : Ann := ⟨[77, 89, 94, 100, 105, 114, 126], [⟨16, [13], [], []⟩, ⟨17, [14], [], []⟩, ⟨30, [20], [], []⟩, ⟨38, [201, 77], [], []⟩, ⟨39, [], [], [0, 1, 2, 3, 4, 5, 6]⟩]⟩
set_option maxHeartbeats 8000000 in
theorem of15_pure (H L : List ByteArray) (ls : List (List Nd)) (R : DVal) (hH : H.length ≠ 0) (hR : BoxR H L ls R) (hm : mx R = 0) : DPure Tryz.prog 15 [dTab H L, dBodies ls] R := by
 refine DPure_introF [94, 4] (fn := Tryz.f15) Tryz.func15 rfl Tryz.call15 (by simp [Tryz.ntmps15]) (by simpa using hm) ?_
 intro hwf B hnt
 simp only [Tryz.ntmps15] at hnt
 have hA := an_is anBP115 Tryz.mixed (aj2 @anBP115.eq_1 Tryz.results15)
 have hwl : ls.length * 24 ≤ 150000000000000 := by
  have h1 := hwf.2.1
  simp only [wfD, List.length_map] at h1
  exact h1.1
 clear hwf
 simp only [argS]
 have e1 := names66_pure H L
 (refine go1 (aj1 e1) aj0 (aj1 hH) ?_; intros; refine mk_i ?_)
 clear hH
 refine DW_loop (X := {k : Nat // k ≤ ls.length ∧ errF ls = errF (ls.drop k)}) (fun k => ⟨[(1, dBodies ls), (2, .ref [dTab H L]), (4, .bx 4 1 0), (5, .int .i64 0), (32, dBodies ls), (33, .int .i64 ls.length), (34, .int .i64 k.1)], [⟨4, 1, .box [.int .i64 0, .nilsl, .nilsl]⟩]⟩) (fun k => ls.length - k.1) ⟨0, by simp⟩ (Sub.lit (by simp)) ?_
 rintro ⟨k, hk, hek⟩
 simp only
 by_cases hlt : k < ls.length
 ·obtain ⟨l, hl, hl', hlm⟩ := at_lt' hlt
  rw [List.drop_eq_getElem_cons hlt, hl', errF] at hek
  have e2 := bodyC_p l
  by_cases hc : bodyC l = 0
  ·rw [if_pos hc] at hek
   rw [hc] at e2
   (refine go1 (aj1 e2) aj0 (aj4 hlt hl hl' @rowB.eq_1) ?_; intros; refine mk_i ?_)
   exact Again.mk ⟨k + 1, by omega, hek⟩ (Sub.lit (by simp)) (by simp; omega)
   skip
  ·rw [if_neg hc] at hek
   have hRR := hR.a (by rw [hek]; exact hc)
   rw [hek] at hRR
   rw [hRR]
   have hcb : (bodyC l == 0) = false := by simpa using hc
   exact go0 (aj1 e2) aj0 (aj6 hlt hl hl' @rowB.eq_1 hc hcb)
 have hkk : k = ls.length := by omega
 subst hkk
 rw [List.drop_length] at hek
 have he0 : errF ls = 0 := hek
 obtain ⟨ts, hts, htp⟩ := errF_trees he0
 clear hek hk
 have htl : ls.length = ts.length := by rw [hts, List.length_map]
 have hocl := occS_le ts fun t ht => (htp t ht).2
 rw [← hts] at hocl
 (refine go1 aj0 aj0 aj0 ?_; intros; refine mk_i ?_)
 refine DW_loop (X := {k : Nat // k ≤ ls.length ∧ (ls.take k).any (bad4 H L) = false}) (fun k => ⟨[(1, dBodies ls), (2, .ref [dTab H L]), (4, .bx 4 1 0), (5, .int .i64 0), (9, .int .i64 (occS (ls.take k.1))), (45, dBodies ls), (46, .int .i64 ls.length), (47, .int .i64 k.1)], [⟨4, 1, .box [.int .i64 0, .nilsl, .nilsl]⟩]⟩) (fun k => ls.length - k.1) ⟨0, by simp⟩ (Sub.lit (by simp [occS_nil])) ?_
 rintro ⟨k, hk, hno⟩
 simp only
 by_cases hlt : k < ls.length
 ·obtain ⟨l, hl, hl', hlm⟩ := at_lt' hlt
  have hll : l.length ≤ 2048 := by
   rw [hts] at hlm
   obtain ⟨t, ht, rfl⟩ := List.mem_map.1 hlm
   exact (htp t ht).2
  have hos := occS_snoc (ls.take k) l
  rw [← take_snoc hl] at hos
  have hot := occS_take (ls := ls) (k := k + 1)
  obtain ⟨m, hm2⟩ : ∃ m, m = occS (ls.take k) := ⟨_, rfl⟩
  rw [← hm2] at hos ⊢
  have e5 := occ13_pure l
  have hw5 : IntKind.i64.wrap ((m : Int) + (occN l : Int)) = (occS (ls.take (k + 1)) : Int) := by rw [wrap64_in (by omega) (by omega), hos]; omega
  (refine go1 aj0 aj0 (aj4 hlt hl hl' @rowB.eq_1) ?_; intros; refine mk_i ?_)
  refine DW_loop (X := {j : Nat // j ≤ l.length ∧ bad4 H L (l.take j) = false}) (fun j => ⟨[(1, dBodies ls), (2, .ref [dTab H L]), (4, .bx 4 1 0), (5, .int .i64 0), (9, .int .i64 m), (11, dNds l), (45, dBodies ls), (46, .int .i64 ls.length), (47, .int .i64 k), (51, dNds l), (52, .int .i64 l.length), (53, .int .i64 j.1)], [⟨4, 1, .box [.int .i64 0, .nilsl, .nilsl]⟩]⟩) (fun j => l.length - j.1) ⟨0, by simp [bad4]⟩ (Sub.lit (by simp)) ?_
  rintro ⟨j, hj, hnj⟩
  simp only
  by_cases hlt2 : j < l.length
  ·obtain ⟨x, hx, hx', hxm⟩ := at_lt' hlt2
   have e3 := sym68_pure H L x
   have hbs : bad4 H L (l.take (j + 1)) = decide (symE H L x = 4) := by
    unfold bad4 at hnj ⊢
    rw [take_snoc hx, List.any_append, hnj]
    simp
   obtain ⟨E, hE⟩ : ∃ E, E = symE H L x := ⟨_, rfl⟩
   rw [← hE] at e3 hbs
   simp only [dNd, dSym] at e3
   by_cases h4 : E = 4
   ·have hany : ls.any (bad4 H L) = true := by
     rw [List.any_eq_true]
     refine ⟨l, hlm, ?_⟩
     unfold bad4
     rw [List.any_eq_true]
     exact ⟨x, hxm, by rw [← hE]; simp [h4]⟩
    rw [hR.b he0 hany]
    exact go0 (aj1 e3) aj0 (aj5 @dNd.eq_1 hlt2 hx hx' h4)
   ·have h4b : (E == 4) = false := by simpa using h4
    rw [decide_eq_false h4] at hbs
    (refine go1 (aj1 e3) aj0 (aj6 @dNd.eq_1 hlt2 hx hx' h4 h4b) ?_; intros; refine mk_i ?_)
    refine Again.mk ⟨j + 1, by omega, hbs⟩ (Sub.lit (by simp)) (by simp; omega)
    skip
  ·have hkk : j = l.length := by omega
   subst hkk
   rw [List.take_length] at hnj
   have hno2 : (ls.take (k + 1)).any (bad4 H L) = false := by rw [take_snoc hl, List.any_append, hno]; simp [hnj]
   (refine go1 (aj1 e5) aj0 (aj1 hw5) ?_; intros; refine mk_i ?_)
   refine Again.mk ⟨k + 1, by omega, hno2⟩ (Sub.lit (by simp)) (by simp; omega)
   skip
 have hkk : k = ls.length := by omega
 subst hkk
 rw [List.take_length] at hno
 clear hk hlt
 by_cases h64 : 64 < occS ls
 ·have hRc := hR.c he0 hno h64
  have d1 : (64 : Int) < (occS ls : Int) := by omega
  exact go0 aj0 aj0 (aj3 d1 h64 hRc)
 have hRd := hR.d he0 ts hts htp hno (by omega)
 have hoc := occS_trees ts
 rw [← hts] at hoc
 have d1 : ¬ (64 : Int) < (occS ls : Int) := by omega
 (refine go1 aj0 aj0 (aj2 d1 h64) ?_; intros; refine mk_i ?_)
 have hlv64 : (lvL ts).length ≤ 64 := by omega
 obtain ⟨SF, hSF⟩ : ∃ SF, SF = syL (symS H L) ts := ⟨_, rfl⟩
 have hpre : ∀ k, (lvL (ts.take k)).length ≤ 64 ∧ syL (symS H L) (ts.take k) <+: SF := fun k => by
  have h1 := lvL_pre (us := ts.take k) (vs := ts.drop k)
  have h2 := syL_pre (symS H L) (ts.take k) (ts.drop k)
  rw [List.take_append_drop] at h1 h2
  rw [hSF]
  exact ⟨by omega, h2⟩
 have hpl : ∀ k, (arcsN SF (ts.take k)).length ≤ 1073741824 := fun k => by
  have h1 := prL_few (ts.take k) 0 (fun t ht => (htp t (List.mem_of_mem_take ht)).2) (hpre k).1
  unfold arcsN
  rw [arcsJ_len]
  have := (hpre k).1
  omega
 have hfl : ∀ k, (firN (ts.take k)).length ≤ 64 ∧ (lasN (ts.take k)).length ≤ 64 := fun k => by
  have h1 := fiN_len (ts.take k) 0
  have h2 := laN_len (ts.take k) 0
  have := (hpre k).1
  exact ⟨by unfold firN; omega, by unfold lasN; omega⟩
 have z0 : arcsN SF [] = [] := rfl
 have z1 : syL (symS H L) [] = [] := rfl
 have z2 : firN [] = [] := rfl
 have z3 : lasN [] = [] := rfl
 have z4 : anyE [] = false := by rw [anyE]
 refine DW_adoptC 77 0 201 47 2 16 (by simp) (fun n1 => ?_)
 refine DW_adoptC 77 1 202 49 4 32 (by simp) (fun n2 => ?_)
 refine DW_adoptC 17 2 94 3 1 8 (by simp) (fun n3 => ?_)
 refine DW_nilC 17 1 1 8 rfl rfl ?_
 refine DW_loop (X := {k : Nat // k ≤ ts.length}) (fun k => ⟨[(2, .ref [dTab H L]), (4, .bx 4 1 0), (16, .bx 77 1 0), (17, .bx 17 1 0), (79, dBodies ls), (80, .int .i64 ls.length), (81, .int .i64 k.1)],
  [⟨4, 1, .box [.int .i64 0, .nilsl, .nilsl]⟩, ⟨77, 1, .box [.osl 201 1, .osl 202 1]⟩, ⟨201, 1, .row 47 2 16 ((syL (symS H L) (ts.take k.1)).map dSym)⟩, ⟨202, 1, .row 49 4 32 ((arcsN SF (ts.take k.1)).map dArc)⟩, ⟨17, 1, .box [.bool (anyE (ts.take k.1)), dNats (firN (ts.take k.1)), .osl 94 1]⟩, ⟨94, 1, .row 3 1 8 ((lasN (ts.take k.1)).map natD)⟩]⟩) (fun k => ts.length - k.1) ⟨0, by simp⟩ (Sub.lit (by simp [z0, z1, z2, z3, z4])) ?_
 rintro ⟨k, hk⟩
 simp only
 by_cases hlt : k < ts.length
 ·obtain ⟨t, ht, ht', htm⟩ := at_lt' hlt
  obtain ⟨hok, h2048⟩ := htp t htm
  have hlk : ls[k]? = some (flat t) := by rw [hts, List.getElem?_map, ht]; rfl
  have hltl : k < ls.length := by omega
  have hlk' : ls[k]'hltl = flat t := (List.getElem?_eq_some_iff.1 hlk).2
  have hp1 := hpre (k + 1)
  have y1 := syN_step H L (ts.take k) t
  have y2 := firN_step (ts.take k) t
  have y3 := lasN_step (ts.take k) t
  have y4 := arcsN_step SF (ts.take k) t
  have y5 := anyE_snoc2 (ts.take k) t
  have y6 := lvL_snoc (ts.take k) t
  rw [← take_snoc ht] at y1 y2 y3 y4 y5 y6
  have y7 := congrArg List.length y6
  rw [List.length_append] at y7
  have hA := hpl k
  have hF := hfl k
  have hF1 := hfl (k + 1)
  have e6 := tree69_all H L (flat t) (lvL (ts.take k)).length SF (by rw [← y7]; exact hp1.1) _ t (Nat.le_refl _) hok 0 [] (syL (symS H L) (ts.take k)) (arcsN SF (ts.take k)) (by simp) (by rw [syL_len, rkN_zero]; rfl) (by rw [y1]; exact hp1.2) (by omega)
  rw [y1, y4, List.append_nil] at e6
  have g1 := congrArg List.length y2
  have g2 := congrArg List.length y3
  rw [List.length_append] at g1 g2
  have e7 := alt71_spec (anyE (ts.take k)) (empT t) (firN (ts.take k)) (firT (flat t) (lvL (ts.take k)).length t 0) (lasN (ts.take k)) (lasT (flat t) (lvL (ts.take k)).length t 0) (by omega) (by omega)
  rw [y5, y2, y3] at e7
  refine DW_sub (Sub.freezeL [94] _) ?_
  simp
  (repeat (first | refine DW_seq fun K hK => ?_ | (refine DW_r anBP115 Tryz.mixed (by kernel_rfl) ?_; simp [anBP115, hnt, dBx, hltl, hlk, hlk', rowB]; try simp (disch := omega) only [wrap64_in]) | refine DW_block ?_ | (refine DW_if ?_ ?_ ?_; (· (simp [hnt, dBx, hltl, hlk, hlk', rowB]; done)); (try (rotate_left; (· (intro hc; (try simp [hnt, dBx, hltl, hlk, hlk', rowB] at hc); done))))) | (refine DW_ret ?_; simp [Tryz.results15, hnt, dBx, hltl, hlk, hlk', rowB]) | ((first | refine DW_exit ?_ | refine DW_skip ?_); simp [hnt, dBx, hltl, hlk, hlk', rowB]) | (intro hc; (try simp [hnt, dBx, hltl, hlk, hlk', rowB] at hc); (try (exfalso; omega))) | (refine callS_mk [(77,0),(201,1),(202,2)] [] (e6) ?_ ?_; (· (simp [hnt, dBx, hltl, hlk, hlk', rowB]; done)); (intro _; try simp [hnt, dBx, hltl, hlk, hlk', rowB])) | (refine callS_mk [] [(94,0)] (e7) ?_ ?_; (· (simp [hnt, dBx, hltl, hlk, hlk', rowB]; done)); (intro _; try simp [hnt, dBx, hltl, hlk, hlk', rowB])) | (refine ⟨?_, ?_⟩; · omega) | omega | apply_assumption -exfalso -symm | (exfalso; omega)))
  refine Again.mk ⟨k + 1, by omega⟩ (Sub.lit (by simp)) (by simp; omega)
  skip
 ·have hkk : k = ts.length := by omega
  subst hkk
  rw [List.take_length]
  have hA := hpl ts.length
  have hF := hfl ts.length
  have hP := hpre ts.length
  rw [List.take_length] at hA hF hP
  have e8 := join72_spec SF SF (arcsN SF ts) [0] (firN ts) (List.prefix_refl _) (fun q hq => by have := fiN_num ts 0 q hq; rw [hSF, syL_len]; omega) (by rw [hSF, syL_len]; omega) (by simp; omega)
  have y8 := arcsN_all (symS H L) ts
  rw [← hSF] at y8
  rw [y8] at e8
  have e9 := sortFA_spec (arcsP (symS H L) ts)
  have e11 := compactA_sp (sortC arcC (arcsP (symS H L) ts))
  rw [← hSF]
  have hnlt : ¬ (ts.length : Int) < (ls.length : Int) := by omega
  have hSl : SF.length = (lvL ts).length := by rw [hSF, syL_len]
  have hw1 : IntKind.i64.wrap ((SF.length : Int) + 1) = ((lvL ts).length : Int) + 1 := by rw [hSl]; exact wrap64_in (by omega) (by omega)
  have hfin := fins_law ts fun t ht => (htp t ht).1
  unfold boxF autoD at hRd
  obtain ⟨CZ, hCZ⟩ : ∃ CZ, CZ = compL (fun x y => arcC x y == 0) (sortC arcC (arcsP (symS H L) ts)) := ⟨_, rfl⟩
  rw [← hCZ] at hRd e11
  obtain ⟨FR, hFR⟩ : ∃ FR, FR = finsR ts := ⟨_, rfl⟩
  rw [← hFR] at hRd hfin
  cases hE : anyE ts
  ·have e10 := sortN_spec (lasN ts)
   have h12 : isort ((lasN ts).map toI) = FR := by
    rw [hE] at hfin
    simp only [Bool.false_eq_true, if_false, List.append_nil] at hfin
    exact hfin
   rw [h12] at e10
   (repeat (first | refine DW_seq fun K hK => ?_ | (refine DW_r anBP115 Tryz.mixed (by kernel_rfl) ?_; simp [anBP115, hnt, dBx, hnlt, natD, hw1, hRd]; try simp (disch := omega) only [wrap64_in]) | refine DW_block ?_ | (refine DW_if ?_ ?_ ?_; (· (simp [hnt, dBx, hnlt, natD, hw1, hRd]; done)); (try (rotate_left; (· (intro hc; (try simp [hnt, dBx, hnlt, natD, hw1, hRd] at hc); done))))) | (refine DW_ret ?_; simp [Tryz.results15, hnt, dBx, hnlt, natD, hw1, hRd]) | ((first | refine DW_exit ?_ | refine DW_skip ?_); simp [hnt, dBx, hnlt, natD, hw1, hRd]) | (intro hc; (try simp [hnt, dBx, hnlt, natD, hw1, hRd] at hc); (try (exfalso; omega))) | (refine callS_mk [(77,0),(201,1),(202,2)] [] (e8) ?_ ?_; (· (simp [hnt, dBx, hnlt, natD, hw1, hRd]; done)); (intro _; try simp [hnt, dBx, hnlt, natD, hw1, hRd])) | (refine callS_mk [(202,0)] [] (e9) ?_ ?_; (· (simp [hnt, dBx, hnlt, natD, hw1, hRd]; done)); (intro _; try simp [hnt, dBx, hnlt, natD, hw1, hRd])) | (refine callS_mk [(94,0)] [] (e10) ?_ ?_; (· (simp [hnt, dBx, hnlt, natD, hw1, hRd]; done)); (intro _; try simp [hnt, dBx, hnlt, natD, hw1, hRd])) | (refine callS_mk [(202,0)] [] (e11) ?_ ?_; (· (simp [hnt, dBx, hnlt, natD, hw1, hRd]; done)); (intro _; try simp [hnt, dBx, hnlt, natD, hw1, hRd])) | (refine ⟨?_, ?_⟩; · omega) | omega | apply_assumption -exfalso -symm | (exfalso; omega)))
  ·have e10 := sortN_spec (lasN ts ++ [0])
   have h12 : isort ((lasN ts ++ [0]).map toI) = FR := by
    rw [hE] at hfin
    simp only [if_true] at hfin
    rw [List.map_append]
    exact hfin
   rw [h12] at e10
   have hb : ((lasN ts).length + 1) * 8 ≤ 150000000000000 := by omega
   (repeat (first | refine DW_seq fun K hK => ?_ | (refine DW_r anBP115 Tryz.mixed (by kernel_rfl) ?_; simp [anBP115, hnt, dBx, hnlt, natD, hw1, hRd, hb]; try simp (disch := omega) only [wrap64_in]) | refine DW_block ?_ | (refine DW_if ?_ ?_ ?_; (· (simp [hnt, dBx, hnlt, natD, hw1, hRd, hb]; done)); (try (rotate_left; (· (intro hc; (try simp [hnt, dBx, hnlt, natD, hw1, hRd, hb] at hc); done))))) | (refine DW_ret ?_; simp [Tryz.results15, hnt, dBx, hnlt, natD, hw1, hRd, hb]) | ((first | refine DW_exit ?_ | refine DW_skip ?_); simp [hnt, dBx, hnlt, natD, hw1, hRd, hb]) | (intro hc; (try simp [hnt, dBx, hnlt, natD, hw1, hRd, hb] at hc); (try (exfalso; omega))) | (refine callS_mk [(77,0),(201,1),(202,2)] [] (e8) ?_ ?_; (· (simp [hnt, dBx, hnlt, natD, hw1, hRd, hb]; done)); (intro _; try simp [hnt, dBx, hnlt, natD, hw1, hRd, hb])) | (refine callS_mk [(202,0)] [] (e9) ?_ ?_; (· (simp [hnt, dBx, hnlt, natD, hw1, hRd, hb]; done)); (intro _; try simp [hnt, dBx, hnlt, natD, hw1, hRd, hb])) | (refine callS_mk [(94,0)] [] (e10) ?_ ?_; (· (simp [hnt, dBx, hnlt, natD, hw1, hRd, hb]; done)); (intro _; try simp [hnt, dBx, hnlt, natD, hw1, hRd, hb])) | (refine callS_mk [(202,0)] [] (e11) ?_ ?_; (· (simp [hnt, dBx, hnlt, natD, hw1, hRd, hb]; done)); (intro _; try simp [hnt, dBx, hnlt, natD, hw1, hRd, hb])) | (refine ⟨?_, ?_⟩; · omega) | omega | apply_assumption -exfalso -symm | (exfalso; omega)))
end Go.Proofs.YtdgocjbakjamaaaGreat
end

section
namespace Go.Proofs.YtdgocjbakjamaaaGreat
open Go Go.Dm
variable [DMode]
attribute [local irreducible] DW callP callS
set_option maxRecDepth 100000
noncomputable def wrongI (H L : List ByteArray) (ls : List (List Nd)) : Int := if errF ls = 0 then (if ls.any (bad4 H L) = true then 4 else if 64 < occS ls then 183 else 0) else errF ls
def anRB778 : Ann := ⟨[], [⟨15, [10], [], []⟩]⟩
set_option maxHeartbeats 8000000 in
theorem wrong78_pure (g : List Rul) (ls : List (List Nd)) (hn : ((namesK 3 g).length + 1) * 16 ≤ 150000000000000) : DPure Tryz.prog 78 [dRuls g, dBodies ls] (.int .i64 (wrongI (headsL g) (labelsL' g) ls)) := by
 refine DPure_introF [] (fn := Tryz.f78) Tryz.func78 rfl Tryz.call78 (by simp [Tryz.ntmps78]) (by simp [mx]) ?_
 intro hwf B hnt
 simp only [Tryz.ntmps78] at hnt
 have hA := an_is anRB778 Tryz.mixed (aj2 @anRB778.eq_1 Tryz.results78)
 have hwl : ls.length * 24 ≤ 150000000000000 := by
  have h1 := hwf.2.1
  simp only [wfD, List.length_map] at h1
  exact h1.1
 clear hwf
 simp only [argS]
 have eS := fun x => rsym147_pure g x hn
 obtain ⟨H, hH⟩ : ∃ H, H = headsL g := ⟨_, rfl⟩
 obtain ⟨L, hL⟩ : ∃ L, L = labelsL' g := ⟨_, rfl⟩
 simp only [← hH, ← hL] at eS ⊢
 clear hH hL
 obtain ⟨W, hW⟩ : ∃ W, W = wrongI H L ls := ⟨_, rfl⟩
 rw [← hW]
 unfold wrongI at hW
 (refine go1 aj0 aj0 aj0 ?_; intros; refine mk_i ?_)
 refine DW_loop (X := {k : Nat // k ≤ ls.length ∧ errF ls = errF (ls.drop k)}) (fun k => ⟨[(0, dRuls g), (1, dBodies ls), (5, .int .i64 k.1)], []⟩) (fun k => ls.length - k.1) ⟨0, by simp⟩ (Sub.lit (by simp)) ?_
 rintro ⟨k, hk, hek⟩
 simp only
 by_cases hlt : k < ls.length
 ·obtain ⟨l, hl, hl', hlm⟩ := at_lt' hlt
  rw [List.drop_eq_getElem_cons hlt, hl', errF] at hek
  have e2 := bodyC_r l
  have hwk : IntKind.i64.wrap ((k : Int) + 1) = (k : Int) + 1 := wrap64_in (by omega) (by omega)
  by_cases hc : bodyC l = 0
  ·rw [if_pos hc] at hek
   rw [hc] at e2
   (refine go1 (aj1 e2) aj0 (aj5 hlt hl hl' @rowB.eq_1 hwk) ?_; intros; refine mk_i ?_)
   exact Again.mk ⟨k + 1, by omega, hek⟩ (Sub.lit (by simp)) (by simp; omega)
   skip
  ·rw [if_neg hc] at hek
   rw [if_neg (by rw [hek]; exact hc), hek] at hW
   have hcb : (bodyC l == 0) = false := by simpa using hc
   exact go0 (aj1 e2) aj0 (aj7 hlt hl hl' @rowB.eq_1 hc hcb hW)
 have hkk : k = ls.length := by omega
 subst hkk
 rw [List.drop_length] at hek
 have he0 : errF ls = 0 := hek
 rw [if_pos he0] at hW
 obtain ⟨ts, hts, htp⟩ := errF_trees he0
 clear hek hk
 have htl : ls.length = ts.length := by rw [hts, List.length_map]
 have hocl := occS_le ts fun t ht => (htp t ht).2
 rw [← hts] at hocl
 (refine go1 aj0 aj0 aj0 ?_; intros; refine mk_i ?_)
 refine DW_loop (X := {k : Nat // k ≤ ls.length ∧ (ls.take k).any (bad4 H L) = false}) (fun k => ⟨[(0, dRuls g), (1, dBodies ls), (7, .int .i64 (occS (ls.take k.1))), (8, .int .i64 k.1)], []⟩) (fun k => ls.length - k.1) ⟨0, by simp⟩ (Sub.lit (by simp [occS_nil])) ?_
 rintro ⟨k, hk, hno⟩
 simp only
 by_cases hlt : k < ls.length
 ·obtain ⟨l, hl, hl', hlm⟩ := at_lt' hlt
  have hll : l.length ≤ 2048 := by
   rw [hts] at hlm
   obtain ⟨t, ht, rfl⟩ := List.mem_map.1 hlm
   exact (htp t ht).2
  have hos := occS_snoc (ls.take k) l
  rw [← take_snoc hl] at hos
  have hot := occS_take (ls := ls) (k := k + 1)
  obtain ⟨m, hm2⟩ : ∃ m, m = occS (ls.take k) := ⟨_, rfl⟩
  rw [← hm2] at hos ⊢
  have e5 := rocc146_pure l
  have hw5 : IntKind.i64.wrap ((m : Int) + (occN l : Int)) = (occS (ls.take (k + 1)) : Int) := by rw [wrap64_in (by omega) (by omega), hos]; omega
  have hwk : IntKind.i64.wrap ((k : Int) + 1) = (k : Int) + 1 := wrap64_in (by omega) (by omega)
  (refine go1 (aj1 e5) aj0 (aj5 hlt hl hl' @rowB.eq_1 hw5) ?_; intros; refine mk_i ?_)
  refine DW_loop (X := {j : Nat // j ≤ l.length ∧ bad4 H L (l.take j) = false}) (fun j => ⟨[(0, dRuls g), (1, dBodies ls), (7, .int .i64 (occS (ls.take (k + 1)))), (8, .int .i64 k), (9, .int .i64 j.1)], []⟩) (fun j => l.length - j.1) ⟨0, by simp [bad4]⟩ (Sub.lit (by simp)) ?_
  rintro ⟨j, hj, hnj⟩
  simp only
  by_cases hlt2 : j < l.length
  ·obtain ⟨x, hx, hx', hxm⟩ := at_lt' hlt2
   have e3 := eS x
   have hwj : IntKind.i64.wrap ((j : Int) + 1) = (j : Int) + 1 := wrap64_in (by omega) (by omega)
   have hbs : bad4 H L (l.take (j + 1)) = decide (symE H L x = 4) := by
    unfold bad4 at hnj ⊢
    rw [take_snoc hx, List.any_append, hnj]
    simp
   obtain ⟨E, hE⟩ : ∃ E, E = symE H L x := ⟨_, rfl⟩
   rw [← hE] at e3 hbs
   simp only [dNd, dSym] at e3
   by_cases h4 : E = 4
   ·have hany : ls.any (bad4 H L) = true := by
     rw [List.any_eq_true]
     refine ⟨l, hlm, ?_⟩
     unfold bad4
     rw [List.any_eq_true]
     exact ⟨x, hxm, by rw [← hE]; simp [h4]⟩
    rw [if_pos hany] at hW
    exact go0 (aj1 e3) aj0 (aj10 @dNd.eq_1 @rowB.eq_1 hlt hl hl' hlt2 hx hx' h4 hW)
   ·have h4b : (E == 4) = false := by simpa using h4
    rw [decide_eq_false h4] at hbs
    (refine go1 (aj1 e3) aj0 (aj11 @dNd.eq_1 @rowB.eq_1 hlt hl hl' hlt2 hx hx' h4 h4b hwj) ?_; intros; refine mk_i ?_)
    refine Again.mk ⟨j + 1, by omega, hbs⟩ (Sub.lit (by simp)) (by simp; omega)
    skip
  ·have hkk : j = l.length := by omega
   subst hkk
   rw [List.take_length] at hnj
   have hno2 : (ls.take (k + 1)).any (bad4 H L) = false := by rw [take_snoc hl, List.any_append, hno]; simp [hnj]
   (refine go1 aj0 aj0 (aj5 @rowB.eq_1 hlt hl hl' hwk) ?_; intros; refine mk_i ?_)
   refine Again.mk ⟨k + 1, by omega, hno2⟩ (Sub.lit (by simp)) (by simp; omega)
   skip
 have hkk : k = ls.length := by omega
 subst hkk
 rw [List.take_length] at hno
 clear hk hlt
 rw [if_neg (by rw [hno]; simp)] at hW
 by_cases h64 : 64 < occS ls
 ·rw [if_pos h64] at hW
  have d1 : (64 : Int) < (occS ls : Int) := by omega
  exact go0 aj0 aj0 (aj3 d1 h64 hW)
 ·rw [if_neg h64] at hW
  have d1 : ¬ (64 : Int) < (occS ls : Int) := by omega
  exact go0 aj0 aj0 (aj3 d1 h64 hW)
end Go.Proofs.YtdgocjbakjamaaaGreat
end

section
namespace Go.Proofs.YtdgocjbakjamaaaGreat
open Go Go.Dm
variable [DMode]
attribute [local irreducible] DW callP callS
set_option maxRecDepth 100000
theorem pl_lvs (l : List Nd) : (plN l l.length).length = (lvs l).length := by rw [plN_len (Nat.le_refl _), rkN_all]
theorem arcsR_len (sy : Nd → Sym) : ∀ (ts : List RT) (ah : Nat), (lvL ts).length ≤ 64 → (arcsR sy ah ts).length ≤ 65 * (lvL ts).length
 | [], ah, _ => by simp [arcsR]
 | t :: ts, ah, h => by
  have h1 : lvL (t :: ts) = lvs (flat t) ++ lvL ts := by simp [lvL]
  rw [h1, List.length_append] at h ⊢
  have ih := arcsR_len sy ts (ah + (lvs (flat t)).length) (by omega)
  have h2 := pl_lvs (flat t)
  have h3 := bodyA_len sy ah t (by omega) (plN (flat t) (flat t).length)
  have h4 : arcsR sy ah (t :: ts) = bodyA sy ah t (plN (flat t) (flat t).length) ++ arcsR sy (ah + (lvs (flat t)).length) ts := rfl
  rw [h4, List.length_append]
  omega
def arcsI (sy : Nd → Sym) (us : List RT) : List Arc := insA [] (arcsR sy 0 us)
theorem arcsI_snoc (sy : Nd → Sym) (us : List RT) (t : RT) : insA (arcsI sy us) (bodyA sy (lvL us).length t (plN (flat t) (flat t).length)) = arcsI sy (us ++ [t]) := by
 unfold arcsI
 rw [arcsR_snoc, insA_app, Nat.zero_add]
 rfl
theorem arcsI_len (sy : Nd → Sym) (us : List RT) (h : (lvL us).length ≤ 64) : (arcsI sy us).length ≤ 4160 := by
 have h1 := insA_len [] (arcsR sy 0 us)
 have h2 := arcsR_len sy us 0 h
 unfold arcsI
 simp only [List.length_nil] at h1
 omega
def finI (us : List RT) : List Nat := finR 0 us
def finP (t : RT) (ah : Nat) (ps : List Nat) : List Nat := (ps.filter (enT t 0)).map (num (flat t) ah)
theorem finP_snoc (t : RT) (ah : Nat) (ps : List Nat) (p : Nat) : finP t ah (ps ++ [p]) = finP t ah ps ++ (if enT t 0 p = true then [num (flat t) ah p] else []) := by
 unfold finP
 rw [List.filter_append, List.map_append]
 cases h : enT t 0 p <;> simp [h]
theorem finP_nil (t : RT) (ah : Nat) : finP t ah [] = [] := rfl
theorem finP_len (t : RT) (ah : Nat) (ps : List Nat) : (finP t ah ps).length ≤ ps.length := by unfold finP; rw [List.length_map]; exact List.length_filter_le _ _
theorem finI_snoc (us : List RT) (t : RT) : finI us ++ finP t (lvL us).length (plN (flat t) (flat t).length) = finI (us ++ [t]) := by unfold finI finP; rw [finR_snoc, Nat.zero_add]
theorem finI_len : ∀ (ts : List RT) (ah : Nat), (finR ah ts).length ≤ (lvL ts).length
 | [], ah => by simp [finR]
 | t :: ts, ah => by
  have h1 : lvL (t :: ts) = lvs (flat t) ++ lvL ts := by simp [lvL]
  have ih := finI_len ts (ah + (lvs (flat t)).length)
  have h2 := pl_lvs (flat t)
  have h3 : ((plN (flat t) (flat t).length).filter (enT t 0)).length ≤ (plN (flat t) (flat t).length).length := List.length_filter_le _ _
  rw [finR, h1, List.length_append, List.length_append, List.length_map]
  omega
def refF (g : List Rul) (ts : List RT) : DVal := autoD ((lvL ts).length + 1) (finsR ts) (arcsI (syG g) ts)
theorem finsR_eq (ts : List RT) : dNums (finsR ts) = .sl 1 8 ((if anyE ts = true then [natD 0] else []) ++ (finI ts).map natD) := by
 unfold finsR finI
 rw [show dNums ((if anyE ts then [0] else []) ++ (finR 0 ts).map toI) = .sl 1 8 (((if anyE ts then [0] else []) ++ (finR 0 ts).map toI).map dNum) from rfl, List.map_append, List.map_map]
 cases anyE ts <;> rfl
def anRB819 : Ann := ⟨[63, 79, 84], []⟩
set_option maxHeartbeats 8000000 in
theorem rof19_pure (g : List Rul) (ls : List (List Nd)) (R : DVal) (hn : ((namesK 3 g).length + 1) * 16 ≤ 150000000000000) (hm : mx R = 0)
  (hRa : wrongI (headsL g) (labelsL' g) ls ≠ 0 → R = .tup [autoZ, .int .i64 (wrongI (headsL g) (labelsL' g) ls)])
  (hRd : ∀ ts, ls = ts.map flat → (∀ t ∈ ts, okT t = true ∧ (flat t).length ≤ 2048) → occS ls ≤ 64 → wrongI (headsL g) (labelsL' g) ls = 0 → R = .tup [refF g ts, .int .i64 0]) : DPure Tryz.prog 19 [dRuls g, dBodies ls] R := by
 refine DPure_introF [51, 4] (fn := Tryz.f19) Tryz.func19 rfl Tryz.call19 (by simp [Tryz.ntmps19]) (by simpa using hm) ?_
 intro hwf B hnt
 simp only [Tryz.ntmps19] at hnt
 have hA := an_is anRB819 Tryz.mixed (aj2 @anRB819.eq_1 Tryz.results19)
 have hwl : ls.length * 24 ≤ 150000000000000 := by
  have h1 := hwf.2.1
  simp only [wfD, List.length_map] at h1
  exact h1.1
 clear hwf
 simp only [argS]
 have e1 := wrong78_pure g ls hn
 obtain ⟨W, hW⟩ : ∃ W, W = wrongI (headsL g) (labelsL' g) ls := ⟨_, rfl⟩
 simp only [← hW] at e1 hRa hRd
 by_cases h0 : W = 0
 ·have hts : ∃ ts : List RT, ls = ts.map flat ∧ (∀ t ∈ ts, okT t = true ∧ (flat t).length ≤ 2048) ∧ occS ls ≤ 64 := by
   rw [h0] at hW
   unfold wrongI at hW
   split at hW
   ·rename_i he
    obtain ⟨ts, h1, h2⟩ := errF_trees he
    refine ⟨ts, h1, h2, ?_⟩
    split at hW
    ·omega
    ·split at hW
     ·omega
     ·omega
   ·rename_i he; exact absurd hW.symm he
  obtain ⟨ts, hts, htp, hoc⟩ := hts
  have hRR := hRd ts hts htp hoc h0
  have hoc2 := occS_trees ts
  rw [← hts] at hoc2
  have hlv : (lvL ts).length ≤ 64 := by omega
  have htl : ls.length = ts.length := by rw [hts, List.length_map]
  rw [h0] at e1
  clear hW hRa hRd
  (refine go1 (aj1 e1) aj0 aj0 ?_; intros; refine mk_i ?_)
  have hpre : ∀ k, (lvL (ts.take k)).length ≤ 64 := fun k => by
   have h1 := lvL_pre (us := ts.take k) (vs := ts.drop k)
   rw [List.take_append_drop] at h1
   omega
  have z1 : lvL [] = [] := rfl
  have z2 : arcsI (syG g) [] = [] := rfl
  have z3 : finI [] = [] := rfl
  have z4 : anyE [] = false := by rw [anyE]
  refine DW_adoptS 8 50 3 1 8 (by simp [hnt, Tryz.results19, anRB819]) (fun n1 => ?_)
  refine DW_nilC 7 2 4 32 rfl rfl ?_
  refine DW_loop (X := {k : Nat // k ≤ ts.length}) (fun k => ⟨[(0, dRuls g), (1, dBodies ls), (4, .bx 4 1 0), (7, .bx 7 1 0), (8, .osl 50 1), (9, .bool (anyE (ts.take k.1))), (10, .int .i64 k.1)],
   [⟨4, 1, .box [.int .i64 0, .nilsl, .nilsl]⟩, ⟨7, 1, .box [.int .i64 ((lvL (ts.take k.1)).length + 1), .nilsl, dArcs (arcsI (syG g) (ts.take k.1))]⟩, ⟨50, 1, .row 3 1 8 ((finI (ts.take k.1)).map natD)⟩]⟩) (fun k => ts.length - k.1) ⟨0, by simp⟩ (Sub.lit (by simp [z1, z2, z3, z4])) ?_
  rintro ⟨k, hk⟩
  simp only
  by_cases hlt : k < ts.length
  ·obtain ⟨t, ht, ht', htm⟩ := at_lt' hlt
   obtain ⟨hok, h2048⟩ := htp t htm
   have hlk : ls[k]? = some (flat t) := by rw [hts, List.getElem?_map, ht]; rfl
   have hltl : k < ls.length := by omega
   have hlk' : ls[k]'hltl = flat t := (List.getElem?_eq_some_iff.1 hlk).2
   have y1 := arcsI_snoc (syG g) (ts.take k) t
   have y2 := finI_snoc (ts.take k) t
   have y3 := anyE_snoc2 (ts.take k) t
   have y4 := congrArg List.length (lvL_snoc (ts.take k) t)
   rw [← take_snoc ht] at y1 y2 y3 y4
   rw [List.length_append] at y4
   have hp1 := hpre (k + 1)
   have hal := arcsI_len (syG g) (ts.take k) (hpre k)
   have hfl : (finI (ts.take k)).length ≤ 64 := by have := finI_len (ts.take k) 0; have := hpre k; unfold finI; omega
   obtain ⟨ah, hah⟩ : ∃ ah, ah = (lvL (ts.take k)).length := ⟨_, rfl⟩
   rw [← hah] at y1 y2 y4 ⊢
   have e2 := add79_pure g t ah (arcsI (syG g) (ts.take k)) hok h2048 (by omega) hn (by omega)
   rw [y1] at e2
   have e3 := places80_pure (flat t)
   have hpl := pl_lvs (flat t)
   have hprk : ∀ j p, (plN (flat t) (flat t).length)[j]? = some p → rkN (flat t) p = j := fun j p h => plN_rank (Nat.le_refl _) h
   have hat : At (flat t) 0 t := At.top hok
   have eE : ∀ q : Nat, DPure Tryz.prog 81 [dNds (flat t), .int .i64 0, .int .i64 q] (.bool (enT t 0 q)) := fun q => ends81_pure q _ t (flat t) 0 rfl hat (by omega)
   have eM : DPure Tryz.prog 82 [dNds (flat t), .int .i64 0] (.bool (empT t)) := empty39_pure _ t (flat t) 0 rfl hat (by omega)
   have hfs := finP_snoc t ah
   have hfpl := finP_len t ah
   obtain ⟨ps, hps⟩ : ∃ ps, ps = plN (flat t) (flat t).length := ⟨_, rfl⟩
   rw [← hps] at e3 hpl hprk y2
   clear hat hps
   obtain ⟨F0, hF0⟩ : ∃ F0, F0 = finI (ts.take k) := ⟨_, rfl⟩
   rw [← hF0] at y2 hfl ⊢
   have hw1 : IntKind.i64.wrap ((ah : Int) + 1 - 1) = (ah : Int) := by rw [wrap64_in (by omega) (by omega)]; omega
   have hwk : IntKind.i64.wrap ((k : Int) + 1) = (k : Int) + 1 := wrap64_in (by omega) (by omega)
   have hw2 : IntKind.i64.wrap ((ah : Int) + 1 + (ps.length : Int)) = ((lvL (ts.take (k + 1))).length : Int) + 1 := by rw [wrap64_in (by omega) (by omega)]; omega
   (refine go1 (aj2 e2 e3) aj0 (aj5 hltl hlk hlk' @rowB.eq_1 hw1) ?_; intros; refine mk_i ?_)
   refine DW_loop (X := {j : Nat // j ≤ ps.length}) (fun j => ⟨[(0, dRuls g), (1, dBodies ls), (4, .bx 4 1 0), (7, .bx 7 1 0), (8, .osl 50 1), (9, .bool (anyE (ts.take k))), (10, .int .i64 k), (11, dNds (flat t)), (12, .int .i64 ah), (13, dNats ps), (14, .int .i64 j.1)],
    [⟨4, 1, .box [.int .i64 0, .nilsl, .nilsl]⟩, ⟨7, 1, .box [.int .i64 ((ah : Int) + 1), .nilsl, dArcs (arcsI (syG g) (ts.take (k + 1)))]⟩, ⟨50, 1, .row 3 1 8 ((F0 ++ finP t ah (ps.take j.1)).map natD)⟩]⟩) (fun j => ps.length - j.1) ⟨0, by omega⟩ (Sub.lit (by simp [finP_nil])) ?_
   rintro ⟨j, hj⟩
   simp only
   by_cases hlt2 : j < ps.length
   ·obtain ⟨q, hq, hq', _⟩ := at_lt' hlt2
    have e4 := eE q
    have hrk := hprk j q hq
    have hf1 := hfs (ps.take j) q
    rw [← take_snoc hq] at hf1
    have hf2 := hfpl (ps.take j)
    rw [List.length_take] at hf2
    have hnum : num (flat t) ah q = ah + j + 1 := by unfold num; omega
    rw [hnum] at hf1
    obtain ⟨F1, hF1⟩ : ∃ F1, F1 = finP t ah (ps.take j) := ⟨_, rfl⟩
    rw [← hF1] at hf1 hf2 ⊢
    have hb : (F0.length + F1.length + 1) * 8 ≤ 150000000000000 := by omega
    have hwj : IntKind.i64.wrap ((ah : Int) + (j : Int)) = (ah : Int) + (j : Int) := wrap64_in (by omega) (by omega)
    have hwj2 : IntKind.i64.wrap ((ah : Int) + (j : Int) + 1) = (ah : Int) + (j : Int) + 1 := wrap64_in (by omega) (by omega)
    have hwj3 : IntKind.i64.wrap ((j : Int) + 1) = (j : Int) + 1 := wrap64_in (by omega) (by omega)
    cases hd : enT t 0 q
    ·rw [hd] at e4 hf1
     simp only [Bool.false_eq_true, if_false, List.append_nil] at hf1
     (refine go1 (aj1 e4) aj0 (aj5 hlt2 hq hq' @natD.eq_1 hwj3) ?_; intros; refine mk_i ?_)
     refine Again.mk ⟨j + 1, by omega⟩ (Sub.lit (by simp [hf1])) (by simp; omega)
     skip
    ·rw [hd] at e4 hf1
     simp only [if_true] at hf1
     (refine go1 (aj1 e4) aj0 (aj8 hlt2 hq hq' @natD.eq_1 hwj hwj2 hwj3 hb) ?_; intros; refine mk_i ?_)
     refine Again.mk ⟨j + 1, by omega⟩ (Sub.lit (by simp [hf1, natD])) (by simp; omega)
     skip
   ·have hkk : j = ps.length := by omega
    subst hkk
    rw [List.take_length, y2]
    cases hE : anyE (ts.take k)
    ·rw [hE, Bool.false_or] at y3
     rw [y3] at eM
     (refine go1 (aj1 eM) aj0 (aj2 hw2 hwk) ?_; intros; refine mk_i ?_)
     refine Again.mk ⟨k + 1, by omega⟩ (Sub.lit (by simp)) (by simp; omega)
     skip
    ·rw [hE, Bool.true_or] at y3
     (refine go1 (aj1 eM) aj0 (aj2 hw2 hwk) ?_; intros; refine mk_i ?_)
     refine Again.mk ⟨k + 1, by omega⟩ (Sub.lit (by simp [← y3])) (by simp; omega)
     skip
  ·have hkk : k = ts.length := by omega
   subst hkk
   rw [List.take_length]
   have hfl : (finI ts).length ≤ 64 := by have := finI_len ts 0; unfold finI; omega
   have hb1 : ((finI ts).length) * 8 ≤ 150000000000000 := by omega
   have hb2 : (1 + (finI ts).length) * 8 ≤ 150000000000000 := by omega
   have hnlt : ¬ ts.length < ls.length := by omega
   have hfe := finsR_eq ts
   unfold refF autoD at hRR
   rw [hfe] at hRR
   refine DW_sub (Sub.freezeL [50] _) ?_
   simp
   refine DW_adoptC 7 1 51 3 1 8 (by simp) (fun n2 => ?_)
   cases hE : anyE ts
   ·rw [hE] at hRR
    simp only [Bool.false_eq_true, if_false, List.nil_append] at hRR
    exact go0 aj0 aj0 (aj4 hnlt htl hRR hb1)
   ·rw [hE] at hRR
    simp only [if_true] at hRR
    exact go0 aj0 aj0 (aj5 hnlt htl hRR hb2 @natD.eq_1)
 ·have hRR := hRa h0
  have h0b : (W == 0) = false := by simpa using h0
  exact go0 (aj1 e1) aj0 (aj3 h0 h0b hRR)
end Go.Proofs.YtdgocjbakjamaaaGreat
end

section
namespace Go.Proofs.YtdgocjbakjamaaaGreat
open Go Go.Dm
variable [DMode]
attribute [local irreducible] DW callP callS
set_option maxRecDepth 100000
@[simp] theorem bD_tail (l : List Bool) (v : Nat) (h : v < (bD l).length) : ((bD l)[v]'h).tail = [] := by simp [bD, dBl]
end Go.Proofs.YtdgocjbakjamaaaGreat
end

section
namespace Go.Proofs.YtdgocjbakjamaaaGreat
open Go Go.Dm
variable [DMode]
attribute [local irreducible] DW callP callS
set_option maxRecDepth 100000
def numD (l : List Int) : List (List DVal) := l.map dNum
@[simp] theorem mx_numD (l : List Int) : mxR (numD l) = 0 := mx_dNums l
def anBX642 : Ann := ⟨[], []⟩
theorem sameInts_refl (l : List Int) : DPure Tryz.prog 42 [dNums l, dNums l] (.bool true) := by
 refine DPure_introF [] (fn := Tryz.f42) Tryz.func42 rfl Tryz.call42 (by simp [Tryz.ntmps42]) (by simp [mx]) ?_
 intro hwf B hnt
 simp only [Tryz.ntmps42] at hnt
 have hA := an_is anBX642 Tryz.mixed (aj2 @anBX642.eq_1 Tryz.results42)
 have hl := len_nums hwf.1
 clear hwf
 simp only [argS]
 (refine go1 aj0 aj0 aj0 ?_; intros; refine mk_i ?_)
 refine DW_loop (X := {k : Nat // k ≤ l.length}) (fun k => ⟨[(0, dNums l), (1, dNums l), (5, .int .i64 k.1)], []⟩) (fun k => l.length - k.1) ⟨0, by simp⟩ (Sub.lit (by simp)) ?_
 rintro ⟨k, hk⟩
 simp only
 by_cases hlt : k < l.length
 ·obtain ⟨q, hq, hq', _⟩ := at_lt' hlt
  (refine go1 aj0 aj0 (aj4 @dNum.eq_1 hlt hq hq') ?_; intros; refine mk_i ?_)
  refine Again.mk ⟨k + 1, by omega⟩ (Sub.lit (by simp)) (by simp; omega)
  skip
 ·have hkk : k = l.length := by omega
  subst hkk
  exact go0 aj0 aj0 aj0
end Go.Proofs.YtdgocjbakjamaaaGreat
end

section
namespace Go.Proofs.YtdgocjbakjamaaaGreat
open Go Go.Dm
variable [DMode]
attribute [local irreducible] DW callP callS
set_option maxRecDepth 100000
def anRB977 : Ann := ⟨[], []⟩
theorem rcopy77_pure (l : List Nd) (hs : l.length ≤ 1310720) : DPure Tryz.prog 77 [dNds l] (dNds l) := by
 refine DPure_introF [50] (fn := Tryz.f77) Tryz.func77 rfl Tryz.call77 (by simp [Tryz.ntmps77]) (by simp [mx]) ?_
 intro hwf B hnt
 simp only [Tryz.ntmps77] at hnt
 have hA := an_is anRB977 Tryz.mixed (aj2 @anRB977.eq_1 Tryz.results77)
 clear hwf
 simp only [argS]
 have hb : l.length * 32 ≤ 150000000000000 := by omega
 iterate 6 ((first | refine DW_seq fun K hK => ?_ | (refine DW_r anRB977 Tryz.mixed (by kernel_rfl) ?_; simp [anRB977, hnt]; try simp (disch := omega) only [wrap64_in]) | refine DW_block ?_ | (refine DW_if ?_ ?_ ?_; (· (simp [hnt]; done)); (try (rotate_left; (· (intro hc; (try simp [hnt] at hc); done))))) | (refine DW_ret ?_; simp [Tryz.results77, hnt]) | ((first | refine DW_exit ?_ | refine DW_skip ?_); simp [hnt]) | (intro hc; (try simp [hnt] at hc); (try (exfalso; omega))) | (refine ⟨?_, ?_⟩; · omega) | omega | apply_assumption -exfalso -symm | (exfalso; omega)))
 refine DW_adoptS 3 50 91 3 32 (by simp [hnt, Tryz.results77, anRB977]) (fun n => ?_)
 exact go0 aj0 aj0 (aj1 hb)
def anRB920 : Ann := ⟨[], []⟩
set_option maxHeartbeats 1000000 in
theorem sameAuto20_refl (a : Auto) : DPure Tryz.prog 20 [.agg (dAuto a), .agg (dAuto a)] (.bool true) := by
 refine DPure_introF [] (fn := Tryz.f20) Tryz.func20 rfl Tryz.call20 (by simp [Tryz.ntmps20]) (by simp [mx]) ?_
 intro hwf B hnt
 simp only [Tryz.ntmps20] at hnt
 have hA := an_is anRB920 Tryz.mixed (aj2 @anRB920.eq_1 Tryz.results20)
 obtain ⟨n, f, z⟩ := a
 have hz : z.length ≤ 9223372036854775807 := by
  simp only [wfL, wfD, dAuto, List.length_map, maxLen] at hwf
  omega
 clear hwf
 simp only [argS]
 have e1 := sameInts_refl f
 (refine go1 (aj1 e1) aj0 (aj1 @dAuto.eq_1) ?_; intros; refine mk_i ?_)
 refine DW_loop (X := {i : Nat // i ≤ z.length}) (fun i => ⟨[(2, .ref [.int .i64 n, dNums f, dArcs z]), (3, .ref [.int .i64 n, dNums f, dArcs z]), (5, .int .i64 i.1)], []⟩) (fun i => z.length - i.1) ⟨0, by omega⟩ (Sub.lit (by simp)) ?_
 rintro ⟨i, hi⟩
 simp only
 by_cases hlt : i < z.length
 ·obtain ⟨x, hx, hx', _⟩ := at_lt' hlt
  have hw : IntKind.i64.wrap ((i : Int) + 1) = (i : Int) + 1 := wrap64_in (by omega) (by omega)
  (refine go1 aj0 aj0 (aj5 @dArc.eq_1 hlt hx hx' hw) ?_; intros; refine mk_i ?_)
  refine Again.mk ⟨i + 1, by omega⟩ (Sub.lit (by simp)) (by simp; omega)
  skip
 ·have hkk : i = z.length := by omega
  subst hkk
  exact go0 aj0 aj0 aj0
end Go.Proofs.YtdgocjbakjamaaaGreat
end

section
namespace Go.Proofs.YtdgocjbakjamaaaGreat
open Go Go.Dm
variable [DMode]
attribute [local irreducible] DW callP callS
set_option maxRecDepth 100000
end Go.Proofs.YtdgocjbakjamaaaGreat
end

section
namespace Go.Proofs.YtdgocjbakjamaaaGreat
open Go Go.Dm
attribute [local irreducible] DW callP callS
set_option maxRecDepth 100000
mutual
theorem flat_inj : ∀ (t t' : RT) (r r' : List Nd), okT t = true → okT t' = true → flat t ++ r = flat t' ++ r' → t = t' ∧ r = r'
 | .mk x ks, .mk x' ks', r, r', h, h', he => by
  rw [flat_mk, flat_mk, List.cons_append, List.cons_append] at he
  injection he with h1 h2
  subst h1
  have h3 := (okT_mk h).2.1
  have h4 := (okT_mk h').2.1
  obtain ⟨h5, h6⟩ := flatL_inj ks ks' r r' (okT_mk h).2.2 (okT_mk h').2.2 (by omega) h2
  exact ⟨by rw [h5], h6⟩
theorem flatL_inj : ∀ (ks ks' : List RT) (r r' : List Nd), okL ks = true → okL ks' = true → ks.length = ks'.length → flatL ks ++ r = flatL ks' ++ r' → ks = ks' ∧ r = r'
 | [], [], r, r', _, _, _, he => by rw [flatL_nil] at he; exact ⟨rfl, by simpa using he⟩
 | [], _ :: _, _, _, _, _, hl, _ => by simp at hl
 | _ :: _, [], _, _, _, _, hl, _ => by simp at hl
 | u :: us, u' :: us', r, r', h, h', hl, he => by
  rw [flatL_cons, flatL_cons, List.append_assoc, List.append_assoc] at he
  obtain ⟨h1, h2⟩ := flat_inj u u' _ _ (okL_cons h).1 (okL_cons h').1 he
  obtain ⟨h3, h4⟩ := flatL_inj us us' r r' (okL_cons h).2 (okL_cons h').2 (by simpa using hl) h2
  exact ⟨by rw [h1, h3], h4⟩
end
theorem trees_inj : ∀ (ts ts' : List RT), (∀ t ∈ ts, okT t = true) → (∀ t ∈ ts', okT t = true) → ts.map flat = ts'.map flat → ts = ts'
 | [], [], _, _, _ => rfl
 | [], _ :: _, _, _, h => by simp at h
 | _ :: _, [], _, _, h => by simp at h
 | t :: ts, t' :: ts', h, h', he => by
  rw [List.map_cons, List.map_cons] at he
  injection he with h1 h2
  have h3 := (flat_inj t t' [] [] (h t List.mem_cons_self) (h' t' List.mem_cons_self) (by rw [h1])).1
  have h4 := trees_inj ts ts' (fun u hu => h u (List.mem_cons_of_mem _ hu)) (fun u hu => h' u (List.mem_cons_of_mem _ hu)) h2
  rw [h3, h4]
theorem box_eq (g : List Rul) (ts : List RT) (hok : ∀ t ∈ ts, okT t = true) : boxF (headsL g) (labelsL' g) ts = refF g ts := by
 unfold boxF refF arcsI insA syG
 rw [arcs_law _ ts hok]
end Go.Proofs.YtdgocjbakjamaaaGreat
end

section
namespace Go.Proofs.YtdgocjbakjamaaaGreat
open Go Go.Dm
variable [DMode]
def bsL (g : List Rul) (h : ByteArray) : List (List Nd) := (g.filter fun r => decide (r.h = h)).map (·.b)
def tsL (gt : GT) (h : ByteArray) : List RT := (gt.filter fun p => decide (p.1 = h)).map (·.2)
theorem bsL_snoc (g : List Rul) (r : Rul) (h : ByteArray) : bsL (g ++ [r]) h = bsL g h ++ (if r.h = h then [r.b] else []) := by
 unfold bsL
 rw [List.filter_append, List.map_append]
 congr 1
 by_cases hr : r.h = h <;> simp [hr]
theorem bsL_len (g : List Rul) (h : ByteArray) : (bsL g h).length ≤ g.length := by unfold bsL; rw [List.length_map]; exact List.length_filter_le _ _
theorem bsL_mk (gt : GT) (h : ByteArray) : bsL (mkG gt) h = (tsL gt h).map flat := by
 unfold bsL tsL mkG
 rw [List.filter_map, List.map_map, List.map_map]
 rfl
theorem tsL_mem {gt : GT} {h : ByteArray} {t : RT} (ht : t ∈ tsL gt h) : ∃ p ∈ gt, p.2 = t := by
 unfold tsL at ht
 obtain ⟨p, hp, rfl⟩ := List.mem_map.1 ht
 exact ⟨p, (List.mem_filter.1 hp).1, rfl⟩
theorem occS_le_G : ∀ (g : List Rul) (h : ByteArray), occS (bsL g h) ≤ occG g
 | [], h => by simp [bsL, occS, occG]
 | r :: g, h => by
  have ih := occS_le_G g h
  have h2 : occG (r :: g) = occN r.b + occG g := by simp [occG]
  by_cases hr : r.h = h
  ·have h1 : bsL (r :: g) h = r.b :: bsL g h := by simp [bsL, hr]
   have h3 : occS (r.b :: bsL g h) = occN r.b + occS (bsL g h) := by simp [occS]
   rw [h1, h3, h2]; omega
  ·have h1 : bsL (r :: g) h = bsL g h := by simp [bsL, hr]
   rw [h1, h2]; omega
structure OkgT (gt : GT) : Prop where
 ok : OkG gt
 one : 1 ≤ gt.length
 le : gt.length ≤ 64
 hd : (headsL (mkG gt)).length ≤ 16
 lb : (labelsL' (mkG gt)).length ≤ 16
 oc : occG (mkG gt) ≤ 64
 dp : deepG gt = false
 ms : (missL (mkG gt)).length = 0
 tx : (textG gt).size ≤ 2048
theorem okgT_of {gt : GT} (hk : OkG gt) (h1 : 1 ≤ gt.length) (h2 : gt.length ≤ 64) (h : codeT gt = 0) : OkgT gt := by
 unfold codeT at h
 repeat' split at h
 all_goals first
  | omega
  | skip
 rename_i a1 a2 a3 a4 a5 a6
 exact ⟨hk, h1, h2, by omega, by omega, by omega, by simpa using a4, by omega, by omega⟩
theorem tree_ok {gt : GT} (h : OkgT gt) {p : ByteArray × RT} (hp : p ∈ gt) : okT p.2 = true ∧ (flat p.2).length ≤ 2048 ∧ boundI p.2 = 0 := by
 have h1 := (h.ok p hp).2
 have h2 := ruleT_le hp
 have h3 := h.tx
 have h4 := txt_geT p.2 h1
 refine ⟨h1, by omega, ?_⟩
 have h5 : ¬ 16 < htT p.2 := fun hh => by
  have : deepG gt = true := by unfold deepG; rw [List.any_eq_true]; exact ⟨p, hp, by simpa using hh⟩
  rw [h.dp] at this
  simp at this
 unfold boundI
 rw [if_neg h5, if_neg (by omega)]
theorem sym_known {gt : GT} (h : OkgT gt) {p : ByteArray × RT} (hp : p ∈ gt) {x : Nd} (hx : x ∈ flat p.2) : symE (headsL (mkG gt)) (labelsL' (mkG gt)) x ≠ 4 := by
 have hr : (⟨p.1, flat p.2⟩ : Rul) ∈ mkG gt := List.mem_map.2 ⟨p, hp, rfl⟩
 unfold symE
 split
 ·rename_i h3
  have hm : x.s ∈ labelsL' (mkG gt) := by
   unfold labelsL'
   rw [(uniqS_ok _).2]
   unfold namesK namesN
   exact List.mem_flatMap.2 ⟨_, hr, List.mem_map.2 ⟨x, List.mem_filter.2 ⟨hx, by simpa using h3⟩, rfl⟩⟩
  unfold numE
  rw [if_pos hm]
  omega
 ·split
  ·rename_i h2
   have hm : x.s ∈ headsL (mkG gt) := by
    rcases Classical.em (x.s ∈ headsL (mkG gt)) with hh | hh
    ·exact hh
    ·exfalso
     have : x.s ∈ missL (mkG gt) := by
      unfold missL
      rw [List.mem_filter, (uniqS_ok _).2]
      refine ⟨?_, by simpa using hh⟩
      unfold namesK namesN
      exact List.mem_flatMap.2 ⟨_, hr, List.mem_map.2 ⟨x, List.mem_filter.2 ⟨hx, by simpa using h2⟩, rfl⟩⟩
     have h3 := List.length_pos_of_mem this
     have := h.ms
     omega
   unfold numE
   rw [if_pos hm]
   omega
  ·omega
theorem bad_none {gt : GT} (h : OkgT gt) (s : ByteArray) : (bsL (mkG gt) s).any (bad4 (headsL (mkG gt)) (labelsL' (mkG gt))) = false := by
 rw [Bool.eq_false_iff]
 intro hh
 rw [List.any_eq_true] at hh
 obtain ⟨l, hl, hb⟩ := hh
 rw [bsL_mk] at hl
 obtain ⟨t, ht, rfl⟩ := List.mem_map.1 hl
 obtain ⟨p, hp, rfl⟩ := tsL_mem ht
 unfold bad4 at hb
 rw [List.any_eq_true] at hb
 obtain ⟨x, hx, hxe⟩ := hb
 exact sym_known h hp hx (by simpa using hxe)
theorem tsL_ok {gt : GT} (h : OkgT gt) (s : ByteArray) : ∀ t ∈ tsL gt s, okT t = true ∧ (flat t).length ≤ 2048 := fun t ht => by
 obtain ⟨p, hp, rfl⟩ := tsL_mem ht
 have := tree_ok h hp
 exact ⟨this.1, this.2.1⟩
theorem lvL_le {gt : GT} (h : OkgT gt) (s : ByteArray) : (lvL (tsL gt s)).length ≤ 64 := by
 rw [← occS_trees, ← bsL_mk]
 have := occS_le_G (mkG gt) s
 have := h.oc
 omega
def autL (gt : GT) : List Auto := (headsL (mkG gt)).map fun s => boxA (syG (mkG gt)) (tsL gt s)
theorem autL_len (gt : GT) : (autL gt).length = (headsL (mkG gt)).length := by simp [autL]
theorem autL_at {gt : GT} {i : Nat} {s : ByteArray} (h : (headsL (mkG gt))[i]? = some s) : (autL gt)[i]? = some (boxA (syG (mkG gt)) (tsL gt s)) := by unfold autL; rw [List.getElem?_map, h]; rfl
def sumS (l : List Auto) : Nat := (l.map fun a => a.st.toNat).sum
theorem sumS_snoc (l : List Auto) (a : Auto) : sumS (l ++ [a]) = sumS l + a.st.toNat := by simp [sumS]
theorem autL_ok {gt : GT} (h : OkgT gt) : ∀ a ∈ autL gt, autoOK a = true := fun a ha => by
 obtain ⟨s, _, rfl⟩ := List.mem_map.1 ha
 exact boxA_ok _ _ _ (lvL_le h s)
theorem sumS_le : ∀ {l : List Auto}, (∀ a ∈ l, autoOK a = true) → sumS l ≤ 65 * l.length
 | [], _ => by simp [sumS]
 | a :: l, h => by
  have h1 := ok_st (h a List.mem_cons_self)
  have h2 := sumS_le (l := l) fun x hx => h x (List.mem_cons_of_mem _ hx)
  have h3 : sumS (a :: l) = a.st.toNat + sumS l := by simp [sumS]
  rw [h3, List.length_cons]
  omega
def parA : Nat → List Auto → List (Auto × Nat)
 | _, [] => []
 | f, a :: l => (a, f) :: parA (f + a.st.toNat) l
theorem parA_snoc (a : Auto) : ∀ (l : List Auto) (f : Nat), parA f (l ++ [a]) = parA f l ++ [(a, f + sumS l)]
 | [], f => by simp [parA, sumS]
 | b :: l, f => by
  have h3 : sumS (b :: l) = b.st.toNat + sumS l := by simp [sumS]
  rw [List.cons_append, parA, parA, parA_snoc a l, h3, Nat.add_assoc]
  rfl
theorem parA_len : ∀ (l : List Auto) (f : Nat), (parA f l).length = l.length
 | [], _ => rfl
 | a :: l, f => by rw [parA, List.length_cons, List.length_cons, parA_len l]
def dPt (p : Auto × Nat) : List DVal := [.int .i64 p.1.st, dNums p.1.fin, dArcs p.1.arcs, .int .i64 (p.2 : Int)]
abbrev dPts (l : List (Auto × Nat)) : DVal := .sl 4 64 (l.map dPt)
@[simp] theorem mx_dPt (p : Auto × Nat) : mxL (dPt p) = 0 := by simp [dPt, mxL, mx]
@[simp] theorem mx_dPts (l : List (Auto × Nat)) : mxR (l.map dPt) = 0 := mxR0 _ mx_dPt l
def dMach (H L : List ByteArray) (xs : List Auto) : DVal := .ref [dTab H L, dPts (parA 0 xs), .int .i64 (sumS xs)]
end Go.Proofs.YtdgocjbakjamaaaGreat
end

section
namespace Go.Proofs.YtdgocjbakjamaaaGreat
open Go Go.Dm
variable [DMode]
attribute [local irreducible] DW callP callS
set_option maxRecDepth 100000
def anRS158 : Ann := ⟨[], [⟨4, [7], [], []⟩]⟩
set_option maxHeartbeats 2000000 in
theorem bodies58_pure (g : List Rul) (h : ByteArray) (hl : g.length ≤ 64) : DPure Tryz.prog 58 [dRuls g, .str h] (dBodies (bsL g h)) := by
 refine DPure_introF [50] (fn := Tryz.f58) Tryz.func58 rfl Tryz.call58 (by simp [Tryz.ntmps58]) (by simp [mx]) ?_
 intro hwf B hnt
 simp only [Tryz.ntmps58] at hnt
 have hA := an_is anRS158 Tryz.mixed (aj2 @anRS158.eq_1 Tryz.results58)
 clear hwf
 simp only [argS]
 iterate 6 ((first | refine DW_seq fun K hK => ?_ | (refine DW_r anRS158 Tryz.mixed (by kernel_rfl) ?_; simp [anRS158, hnt]; try simp (disch := omega) only [wrap64_in]) | refine DW_block ?_ | (refine DW_if ?_ ?_ ?_; (· (simp [hnt]; done)); (try (rotate_left; (· (intro hc; (try simp [hnt] at hc); done))))) | (refine DW_ret ?_; simp [Tryz.results58, hnt]) | ((first | refine DW_exit ?_ | refine DW_skip ?_); simp [hnt]) | (intro hc; (try simp [hnt] at hc); (try (exfalso; omega))) | (refine ⟨?_, ?_⟩; · omega) | omega | apply_assumption -exfalso -symm | (exfalso; omega)))
 refine DW_adoptS 5 50 42 1 24 (by simp [hnt, Tryz.results58, anRS158]) (fun n => ?_)
 (refine go1 aj0 aj0 aj0 ?_; intros; refine mk_i ?_)
 refine DW_loop (X := {k : Nat // k ≤ g.length}) (fun k => ⟨[(1, .str h), (5, .osl 50 1), (8, dRuls g), (9, .int .i64 g.length), (10, .int .i64 k.1)], [⟨50, 1, .row 42 1 24 ((bsL (g.take k.1) h).map rowB)⟩]⟩) (fun k => g.length - k.1) ⟨0, by omega⟩ (Sub.lit (by simp [bsL])) ?_
 rintro ⟨k, hk⟩
 simp only
 by_cases hlt : k < g.length
 ·obtain ⟨r, hr, hr', hrm⟩ := at_lt' hlt
  have e1 := cloneN_pure r.b
  have hsn := bsL_snoc (g.take k) r h
  rw [← take_snoc hr] at hsn
  have htl := bsL_len (g.take k) h
  rw [List.length_take] at htl
  obtain ⟨T, hT⟩ : ∃ T, T = bsL (g.take k) h := ⟨_, rfl⟩
  rw [← hT] at hsn htl ⊢
  have hb : (T.length + 1) * 24 ≤ 150000000000000 := by omega
  have hwk : IntKind.i64.wrap ((k : Int) + 1) = (k : Int) + 1 := wrap64_in (by omega) (by omega)
  by_cases hh : r.h = h
  ·rw [if_pos hh] at hsn
   have hs2 : (bsL (g.take (k + 1)) h).map rowB = T.map rowB ++ [[dNds r.b]] := by rw [hsn, List.map_append]; rfl
   (refine go1 (aj1 e1) aj0 (aj7 @dRul.eq_1 hlt hr hr' hh hb hwk) ?_; intros; refine mk_i ?_)
   refine Again.mk ⟨k + 1, by omega⟩ (Sub.lit (by simp [hs2])) (by simp; omega)
   skip
  ·rw [if_neg hh, List.append_nil] at hsn
   have hh2 : (r.h == h) = false := by simpa using hh
   (refine go1 aj0 aj0 (aj7 @dRul.eq_1 hlt hr hr' hh hh2 hwk) ?_; intros; refine mk_i ?_)
   refine Again.mk ⟨k + 1, by omega⟩ (Sub.lit (by simp [hsn])) (by simp; omega)
   skip
 ·have hkk : k = g.length := by omega
  subst hkk
  rw [List.take_length]
  exact go0 aj0 aj0 aj0
def anRS192 : Ann := ⟨[], []⟩
set_option maxHeartbeats 2000000 in
theorem rbodies92_pure (g : List Rul) (h : ByteArray) (hl : g.length ≤ 64) : DPure Tryz.prog 92 [dRuls g, .str h] (dBodies (bsL g h)) := by
 refine DPure_introF [50] (fn := Tryz.f92) Tryz.func92 rfl Tryz.call92 (by simp [Tryz.ntmps92]) (by simp [mx]) ?_
 intro hwf B hnt
 simp only [Tryz.ntmps92] at hnt
 have hA := an_is anRS192 Tryz.mixed (aj2 @anRS192.eq_1 Tryz.results92)
 clear hwf
 simp only [argS]
 iterate 6 ((first | refine DW_seq fun K hK => ?_ | (refine DW_r anRS192 Tryz.mixed (by kernel_rfl) ?_; simp [anRS192, hnt]; try simp (disch := omega) only [wrap64_in]) | refine DW_block ?_ | (refine DW_if ?_ ?_ ?_; (· (simp [hnt]; done)); (try (rotate_left; (· (intro hc; (try simp [hnt] at hc); done))))) | (refine DW_ret ?_; simp [Tryz.results92, hnt]) | ((first | refine DW_exit ?_ | refine DW_skip ?_); simp [hnt]) | (intro hc; (try simp [hnt] at hc); (try (exfalso; omega))) | (refine ⟨?_, ?_⟩; · omega) | omega | apply_assumption -exfalso -symm | (exfalso; omega)))
 refine DW_adoptS 5 50 42 1 24 (by simp [hnt, Tryz.results92, anRS192]) (fun n => ?_)
 (refine go1 aj0 aj0 aj0 ?_; intros; refine mk_i ?_)
 refine DW_loop (X := {k : Nat // k ≤ g.length}) (fun k => ⟨[(0, dRuls g), (1, .str h), (5, .osl 50 1), (6, .int .i64 k.1)], [⟨50, 1, .row 42 1 24 ((bsL (g.take k.1) h).map rowB)⟩]⟩) (fun k => g.length - k.1) ⟨0, by omega⟩ (Sub.lit (by simp [bsL])) ?_
 rintro ⟨k, hk⟩
 simp only
 by_cases hlt : k < g.length
 ·obtain ⟨r, hr, hr', hrm⟩ := at_lt' hlt
  have hsn := bsL_snoc (g.take k) r h
  rw [← take_snoc hr] at hsn
  have htl := bsL_len (g.take k) h
  rw [List.length_take] at htl
  obtain ⟨T, hT⟩ : ∃ T, T = bsL (g.take k) h := ⟨_, rfl⟩
  rw [← hT] at hsn htl ⊢
  have hb : (T.length + 1) * 24 ≤ 150000000000000 := by omega
  have hwk : IntKind.i64.wrap ((k : Int) + 1) = (k : Int) + 1 := wrap64_in (by omega) (by omega)
  by_cases hh : r.h = h
  ·rw [if_pos hh] at hsn
   have hs2 : (bsL (g.take (k + 1)) h).map rowB = T.map rowB ++ [[dNds r.b]] := by rw [hsn, List.map_append]; rfl
   (refine go1 aj0 aj0 (aj7 @dRul.eq_1 hlt hr hr' hh hb hwk) ?_; intros; refine mk_i ?_)
   refine Again.mk ⟨k + 1, by omega⟩ (Sub.lit (by simp [hs2])) (by simp; omega)
   skip
  ·rw [if_neg hh, List.append_nil] at hsn
   have hh2 : (r.h == h) = false := by simpa using hh
   (refine go1 aj0 aj0 (aj7 @dRul.eq_1 hlt hr hr' hh hh2 hwk) ?_; intros; refine mk_i ?_)
   refine Again.mk ⟨k + 1, by omega⟩ (Sub.lit (by simp [hsn])) (by simp; omega)
   skip
 ·have hkk : k = g.length := by omega
  subst hkk
  rw [List.take_length]
  exact go0 aj0 aj0 aj0
def anRS146 : Ann := ⟨[], []⟩
set_option maxHeartbeats 2000000 in
theorem rcopy46_pure (g : List Rul) (hs : SmlG g) (hl : g.length * 40 ≤ 140737488355328) : DPure Tryz.prog 46 [dRuls g] (dRuls g) := by
 refine DPure_introF [50] (fn := Tryz.f46) Tryz.func46 rfl Tryz.call46 (by simp [Tryz.ntmps46]) (by simp [mx]) ?_
 intro hwf B hnt
 simp only [Tryz.ntmps46] at hnt
 have hA := an_is anRS146 Tryz.mixed (aj2 @anRS146.eq_1 Tryz.results46)
 clear hwf
 simp only [argS]
 (refine go1 aj0 aj0 aj0 ?_; intros; refine mk_i ?_)
 refine DW_adoptS 3 50 88 2 40 (by simp [hnt, Tryz.results46, anRS146]) (fun n => ?_)
 refine DW_loop (X := {k : Nat // k ≤ g.length}) (fun k => ⟨[(0, dRuls g), (3, .osl 50 1), (4, .int .i64 k.1)], [⟨50, 1, .row 88 2 40 ((g.take k.1).map dRul)⟩]⟩) (fun k => g.length - k.1) ⟨0, by omega⟩ (Sub.lit (by simp)) ?_
 rintro ⟨k, hk⟩
 simp only
 by_cases hlt : k < g.length
 ·obtain ⟨r, hr, hr', hrm⟩ := at_lt' hlt
  have e1 := rcopy77_pure r.b (hs r hrm)
  have hts2 : List.take (k + 1) (List.map dRul g) = (g.take k).map dRul ++ [[.str r.h, dNds r.b]] := by rw [← List.map_take, take_snoc hr, List.map_append]; rfl
  have htl : (g.take k).length ≤ k := by rw [List.length_take]; omega
  obtain ⟨T, hT⟩ : ∃ T, T = g.take k := ⟨_, rfl⟩
  rw [← hT] at hts2 htl ⊢
  have hb : (T.length + 1) * 40 ≤ 150000000000000 := by omega
  have hwk : IntKind.i64.wrap ((k : Int) + 1) = (k : Int) + 1 := wrap64_in (by omega) (by omega)
  (refine go1 (aj1 e1) aj0 (aj6 @dRul.eq_1 hlt hr hr' hb hwk) ?_; intros; refine mk_i ?_)
  refine Again.mk ⟨k + 1, by omega⟩ (Sub.lit (by simp [hts2])) (by simp; omega)
  skip
 ·have hkk : k = g.length := by omega
  subst hkk
  rw [List.take_length]
  exact go0 aj0 aj0 aj0
end Go.Proofs.YtdgocjbakjamaaaGreat
end

section
namespace Go.Proofs.YtdgocjbakjamaaaGreat
open Go Go.Dm
attribute [local irreducible] DW callP callS
set_option maxRecDepth 100000
theorem errF_zero : ∀ {ls : List (List Nd)}, (∀ l ∈ ls, bodyC l = 0) → errF ls = 0
 | [], _ => rfl
 | l :: ls, h => by
  unfold errF
  rw [if_pos (h l List.mem_cons_self)]
  exact errF_zero fun x hx => h x (List.mem_cons_of_mem _ hx)
theorem bodyC_ok {gt : GT} (h : OkgT gt) {p : ByteArray × RT} (hp : p ∈ gt) : bodyC (flat p.2) = 0 := by
 obtain ⟨h1, h2, h3⟩ := tree_ok h hp
 obtain ⟨t, ht, he, hc⟩ := bodyC_t h2 (tree_whole h1)
 have := (flat_inj p.2 t [] [] h1 ht (by rw [he])).1
 rw [hc, ← this]
 exact h3
theorem errF_ok {gt : GT} (h : OkgT gt) (s : ByteArray) : errF (bsL (mkG gt) s) = 0 := errF_zero fun l hl => by
 rw [bsL_mk] at hl
 obtain ⟨t, ht, rfl⟩ := List.mem_map.1 hl
 obtain ⟨p, hp, rfl⟩ := tsL_mem ht
 exact bodyC_ok h hp
theorem occS_ok {gt : GT} (h : OkgT gt) (s : ByteArray) : occS (bsL (mkG gt) s) ≤ 64 := by
 have := occS_le_G (mkG gt) s
 have := h.oc
 omega
theorem wrong_ok {gt : GT} (h : OkgT gt) (s : ByteArray) : wrongI (headsL (mkG gt)) (labelsL' (mkG gt)) (bsL (mkG gt) s) = 0 := by
 unfold wrongI
 have := occS_ok h s
 rw [if_pos (errF_ok h s), if_neg (by rw [bad_none h s]; simp), if_neg (by omega)]
theorem heads_ne {gt : GT} (h : OkgT gt) : (headsL (mkG gt)).length ≠ 0 := by
 intro h0
 cases gt with
 | nil => have := h.one; simp at this
 | cons p gt =>
  have h1 : p.1 ∈ headsL (mkG (p :: gt)) := headsL_mem.2 ⟨⟨p.1, flat p.2⟩, List.mem_cons_self, rfl⟩
  rw [List.length_eq_zero_iff.1 h0] at h1
  simp at h1
theorem tsL_uq {gt : GT} (h : OkgT gt) (s : ByteArray) : ∀ ts', bsL (mkG gt) s = ts'.map flat → (∀ t ∈ ts', okT t = true ∧ (flat t).length ≤ 2048) → ts' = tsL gt s := fun ts' h1 h2 => trees_inj ts' (tsL gt s) (fun t ht => (h2 t ht).1) (fun t ht => (tsL_ok h s t ht).1) (by rw [← h1, bsL_mk])
theorem box15_ok {gt : GT} (h : OkgT gt) (s : ByteArray) : DPure Tryz.prog 15 [dTab (headsL (mkG gt)) (labelsL' (mkG gt)), dBodies (bsL (mkG gt) s)] (.tup [.agg (dAuto (boxA (syG (mkG gt)) (tsL gt s))), .int .i64 0]) := by
 have h1 := errF_ok h s
 have h2 := bad_none h s
 have h3 := occS_ok h s
 have e5 := of15_pure (headsL (mkG gt)) (labelsL' (mkG gt)) (bsL (mkG gt) s) (.tup [boxF (headsL (mkG gt)) (labelsL' (mkG gt)) (tsL gt s), .int .i64 0]) (heads_ne h) ⟨fun hh => absurd h1 hh, fun _ hh => by rw [h2] at hh; simp at hh, fun _ _ hh => by omega, fun _ ts' h4 h5 _ _ => by rw [tsL_uq h s ts' h4 h5]⟩ (by simp [boxF, autoD, mx, mxL])
 rw [boxA_eq] at e5
 exact e5
theorem rof19_ok {gt : GT} (h : OkgT gt) (hs : SmlG (mkG gt)) (s : ByteArray) : DPure Tryz.prog 19 [dRuls (mkG gt), dBodies (bsL (mkG gt) s)] (.tup [.agg (dAuto (boxA (syG (mkG gt)) (tsL gt s))), .int .i64 0]) := by
 have hbl := bsL_len (mkG gt) s
 have hgl := mkG_len gt
 have hle := h.le
 have hnl := names_le (k := 3) hs
 have e6 := rof19_pure (mkG gt) (bsL (mkG gt) s) (.tup [refF (mkG gt) (tsL gt s), .int .i64 0]) (by omega) (by simp [refF, autoD, mx, mxL]) (fun hh => absurd (wrong_ok h s) hh) (fun ts' h4 h5 _ _ => by rw [tsL_uq h s ts' h4 h5])
 rw [← box_eq (mkG gt) (tsL gt s) fun t ht => (tsL_ok h s t ht).1, boxA_eq] at e6
 exact e6
def anRS247 : Ann := ⟨[21], [⟨8, [9], [], []⟩, ⟨11, [], [0], []⟩]⟩
theorem new47_err (g : List Rul) (c : Int) (hc : c ≠ 0) (h : DPure Tryz.prog 63 [dRuls g] (.int .i64 c)) : DPure Tryz.prog 47 [dRuls g] (.tup [.nilp, .int .i64 c]) := by
 have e1 := of14_err g c hc h
 have hcb : (c == 0) = false := by simpa using hc
 refine DPure_introF [] (fn := Tryz.f47) Tryz.func47 rfl Tryz.call47 (by simp [Tryz.ntmps47]) (by simp [mx]) ?_
 intro hwf B hnt
 simp only [Tryz.ntmps47] at hnt
 have hA := an_is anRS247 Tryz.mixed (aj2 @anRS247.eq_1 Tryz.results47)
 clear hwf
 simp only [argS]
 exact go0 (aj1 e1) aj0 (aj2 hc hcb)
set_option maxHeartbeats 4000000 in
theorem new47_pure (gt : GT) (h : OkgT gt) (hs : SmlG (mkG gt)) (hck : DPure Tryz.prog 63 [dRuls (mkG gt)] (.int .i64 0)) : DPure Tryz.prog 47 [dRuls (mkG gt)] (.tup [dMach (headsL (mkG gt)) (labelsL' (mkG gt)) (autL gt), .int .i64 0]) := by
 refine DPure_introF [52, 21] (fn := Tryz.f47) Tryz.func47 rfl Tryz.call47 (by simp [Tryz.ntmps47]) (by simp [mx, dMach, mxL, dTab]) ?_
 intro hwf B hnt
 simp only [Tryz.ntmps47] at hnt
 have hA := an_is anRS247 Tryz.mixed (aj2 @anRS247.eq_1 Tryz.results47)
 clear hwf
 simp only [argS]
 have hgl := mkG_len gt
 have hle := h.le
 have hnl := names_le (k := 3) hs
 have hhd := h.hd
 have hlb := h.lb
 have e1 := of14_ok (mkG gt) (by omega) (by omega) (by omega) hck
 have e2 := names66_pure (headsL (mkG gt)) (labelsL' (mkG gt))
 have hal := autL_len gt
 have haok := autL_ok h
 obtain ⟨R, hR⟩ : ∃ R, R = dMach (headsL (mkG gt)) (labelsL' (mkG gt)) (autL gt) := ⟨_, rfl⟩
 rw [← hR]
 have hbx : ∀ i s, (headsL (mkG gt))[i]? = some s → _ := fun i s hi => autL_at (gt := gt) hi
 have hb1 : ∀ s, _ := fun s => bodies58_pure (mkG gt) s (by omega)
 have hb2 : ∀ s, _ := fun s => box15_ok h s
 obtain ⟨A, hA⟩ : ∃ A, A = autL gt := ⟨_, rfl⟩
 rw [← hA] at hR hal haok hbx
 obtain ⟨H, hH⟩ : ∃ H, H = headsL (mkG gt) := ⟨_, rfl⟩
 rw [← hH] at e1 e2 hR hal hhd hbx hb2
 obtain ⟨L, hL⟩ : ∃ L, L = labelsL' (mkG gt) := ⟨_, rfl⟩
 rw [← hL] at e1 e2 hR hb2
 obtain ⟨g, hg⟩ : ∃ g, g = mkG gt := ⟨_, rfl⟩
 rw [← hg] at e1 hb1 hb2 hbx ⊢
 clear hH hL hck hnl hlb hs hA
 (refine go1 (aj2 e1 e2) aj0 aj0 ?_; intros; refine mk_i ?_)
 refine DW_adoptC 21 1 52 150 4 64 (by simp) (fun n1 => ?_)
 refine DW_loop (X := {i : Nat // i ≤ H.length}) (fun i => ⟨[(0, dRuls g), (4, dTab H L), (6, .bx 21 1 0), (23, dStrs H), (24, .int .i64 H.length), (25, .int .i64 i.1)], [⟨21, 1, .box [dTab H L, .osl 52 1, .int .i64 (sumS (A.take i.1))]⟩, ⟨52, 1, .row 150 4 64 ((parA 0 (A.take i.1)).map dPt)⟩]⟩) (fun i => H.length - i.1) ⟨0, by simp⟩ (Sub.lit (by simp [sumS, parA, dTab])) ?_
 rintro ⟨i, hi⟩
 simp only
 by_cases hlt : i < H.length
 ·obtain ⟨s, hx, hx', hxm⟩ := at_lt' hlt
  have hai := hbx i s hx
  obtain ⟨a, ha⟩ : ∃ a, a = boxA (syG g) (tsL gt s) := ⟨_, rfl⟩
  have e3 := hb1 s
  have e4 := hb2 s
  rw [← ha] at hai e4
  have hst := ok_st (haok a (List.mem_of_getElem? hai))
  have hsn := parA_snoc a (A.take i) 0
  have hss := sumS_snoc (A.take i) a
  rw [← take_snoc hai] at hsn hss
  have hpl := parA_len (A.take i) 0
  have hsl := sumS_le (l := A.take i) fun x hx => haok x (List.mem_of_mem_take hx)
  rw [List.length_take] at hpl hsl
  rw [Nat.zero_add] at hsn
  obtain ⟨T, hT⟩ : ∃ T, T = parA 0 (A.take i) := ⟨_, rfl⟩
  obtain ⟨S, hS⟩ : ∃ S, S = sumS (A.take i) := ⟨_, rfl⟩
  rw [← hT] at hsn hpl ⊢
  rw [← hS] at hsn hss hsl ⊢
  have hts : (parA 0 (A.take (i + 1))).map dPt = T.map dPt ++ [[.int .i64 a.st, dNums a.fin, dArcs a.arcs, .int .i64 (S : Int)]] := by rw [hsn, List.map_append]; rfl
  have hb : (T.length + 1) * 64 ≤ 150000000000000 := by omega
  have hwk : IntKind.i64.wrap ((i : Int) + 1) = (i : Int) + 1 := wrap64_in (by omega) (by omega)
  have hws : IntKind.i64.wrap ((S : Int) + a.st) = (sumS (A.take (i + 1)) : Int) := by rw [wrap64_in (by omega) (by omega), hss]; omega
  simp only [dAuto] at e4
  (refine go1 (aj2 e3 e4) aj0 (aj8 @dStr.eq_1 @dAuto.eq_1 hlt hx hx' hb hwk hws) ?_; intros; refine mk_i ?_)
  refine Again.mk ⟨i + 1, by omega⟩ (Sub.lit (by simp [hts, dTab])) (by simp; omega)
  skip
 ·have hkk : i = H.length := by omega
  subst hkk
  have hAt : A.take H.length = A := List.take_of_length_le (by omega)
  rw [hAt]
  unfold dMach at hR
  (refine go1 aj0 aj0 aj0 ?_; intros; refine mk_i ?_)
  exact hR.symm
end Go.Proofs.YtdgocjbakjamaaaGreat
end

section
namespace Go.Proofs.YtdgocjbakjamaaaGreat
open Go Go.Dm
attribute [local irreducible] DW callP callS
set_option maxRecDepth 100000
def stL (l : List Auto) : List Nat := (parA 0 l).map (·.2)
def ntL (l : List Auto) : List Nat := l.zipIdx.flatMap fun p => List.replicate p.1.st.toNat p.2
def mvA (f : Nat) (x : Arc) : Arc := ⟨(f : Int) + x.fr, x.sy, (f : Int) + x.to⟩
def mvF (f : Nat) (q : Int) : Int := (f : Int) + q
def finA (l : List Auto) : List Int := (parA 0 l).flatMap fun p => p.1.fin.map (mvF p.2)
def arcA (l : List Auto) : List Arc := (parA 0 l).flatMap fun p => p.1.arcs.map (mvA p.2)
theorem stL_snoc (l : List Auto) (a : Auto) : stL (l ++ [a]) = stL l ++ [sumS l] := by unfold stL; rw [parA_snoc, List.map_append]; simp
theorem ntL_snoc (l : List Auto) (a : Auto) : ntL (l ++ [a]) = ntL l ++ List.replicate a.st.toNat l.length := by unfold ntL; rw [List.zipIdx_append, List.flatMap_append]; simp
theorem finA_snoc (l : List Auto) (a : Auto) : finA (l ++ [a]) = finA l ++ a.fin.map (mvF (sumS l)) := by unfold finA; rw [parA_snoc, List.flatMap_append]; simp
theorem arcA_snoc (l : List Auto) (a : Auto) : arcA (l ++ [a]) = arcA l ++ a.arcs.map (mvA (sumS l)) := by unfold arcA; rw [parA_snoc, List.flatMap_append]; simp
theorem stL_len (l : List Auto) : (stL l).length = l.length := by unfold stL; rw [List.length_map, parA_len]
theorem ntL_len (l : List Auto) : (ntL l).length = sumS l := by
 unfold ntL sumS
 rw [List.length_flatMap]
 simp only [List.length_replicate]
 congr 1
 refine List.ext_getElem (by simp) fun i h1 h2 => ?_
 simp
theorem finR_len : ∀ (ts : List RT) (ah : Nat), (finR ah ts).length ≤ (lvL ts).length
 | [], _ => by simp [finR]
 | t :: ts, ah => by
  have h1 : (lvL (t :: ts)).length = (lvs (flat t)).length + (lvL ts).length := by simp [lvL]
  have h2 := finR_len ts (ah + (lvs (flat t)).length)
  have h3 : ((plN (flat t) (flat t).length).filter (enT t 0)).length ≤ (plN (flat t) (flat t).length).length := List.length_filter_le _ _
  rw [plN_len (Nat.le_refl _), rkN_all] at h3
  rw [finR, List.length_append, List.length_map]
  omega
theorem finsR_len (ts : List RT) : (finsR ts).length ≤ (lvL ts).length + 1 := by
 have := finR_len ts 0
 unfold finsR
 rw [List.length_append, List.length_map]
 split
 ·simp; omega
 ·simp; omega
structure SmA (a : Auto) : Prop where
 ok : autoOK a = true
 fi : a.fin.length ≤ 65
 ar : a.arcs.length ≤ 1073741888
theorem autL_sm {gt : GT} (h : OkgT gt) : ∀ a ∈ autL gt, SmA a := fun a ha => by
 have hok := autL_ok h a ha
 obtain ⟨s, _, rfl⟩ := List.mem_map.1 ha
 refine ⟨hok, ?_, arcsB_len _ _ (fun t ht => (tsL_ok h s t ht).2) (lvL_le h s)⟩
 have h1 := finsR_len (tsL gt s)
 have h2 := lvL_le h s
 show (finsR (tsL gt s)).length ≤ 65
 omega
theorem finA_len : ∀ {l : List Auto}, (∀ a ∈ l, SmA a) → ∀ f, ((parA f l).flatMap fun p => p.1.fin.map (mvF p.2)).length ≤ 65 * l.length
 | [], _, _ => by simp [parA]
 | a :: l, h, f => by
  have h1 := (h a List.mem_cons_self).fi
  have h2 := finA_len (l := l) (fun x hx => h x (List.mem_cons_of_mem _ hx)) (f + a.st.toNat)
  rw [parA, List.flatMap_cons, List.length_append, List.length_map, List.length_cons]
  simp only
  omega
theorem arcA_len : ∀ {l : List Auto}, (∀ a ∈ l, SmA a) → ∀ f, ((parA f l).flatMap fun p => p.1.arcs.map (mvA p.2)).length ≤ 1073741888 * l.length
 | [], _, _ => by simp [parA]
 | a :: l, h, f => by
  have h1 := (h a List.mem_cons_self).ar
  have h2 := arcA_len (l := l) (fun x hx => h x (List.mem_cons_of_mem _ hx)) (f + a.st.toNat)
  rw [parA, List.flatMap_cons, List.length_append, List.length_map, List.length_cons]
  simp only
  omega
abbrev dAutos (l : List Auto) : DVal := .sl 3 56 (l.map dAuto)
def refM (l : List Auto) : DVal := .agg [.int .i64 (sumS l), dNats (stL l), dNats (ntL l), dNums (finA l), dArcs (arcA l), dAutos l]
end Go.Proofs.YtdgocjbakjamaaaGreat
end

section
namespace Go.Proofs.YtdgocjbakjamaaaGreat
open Go Go.Dm
attribute [local irreducible] DW callP callS
set_option maxRecDepth 100000
@[simp] theorem mx_dAutos (l : List Auto) : mxR (l.map dAuto) = 0 := mxR0 _ mx_dAuto l
theorem mx_repN (j i : Nat) : mxR (List.replicate j (natD i)) = 0 := by
 have := mxR0 natD (by intro x; simp [natD, mxL, mx]) (List.replicate j i)
 rwa [List.map_replicate] at this
theorem bnd_a {a b n : Nat} (h1 : a ≤ 17179870208) (h2 : b < n) (h3 : n ≤ 1073741888) : (a + b + 1) * 32 ≤ 150000000000000 := by omega
theorem wrap_j {j n : Nat} (h1 : j < n) (h2 : n ≤ 1073741888) : IntKind.i64.wrap ((j : Int) + 1) = (j : Int) + 1 := wrap64_in (by omega) (by omega)
theorem wrap_s {S : Nat} {y st : Int} (h1 : S ≤ 1040) (h2 : 0 ≤ y) (h3 : y < st) (h4 : st ≤ 65) : IntKind.i64.wrap ((S : Int) + y) = (S : Int) + y := wrap64_in (by omega) (by omega)
theorem map_take_snoc {α β : Type} {l : List α} {i : Nat} {x : α} (f : α → β) (h : l[i]? = some x) : (l.take (i + 1)).map f = (l.take i).map f ++ [f x] := by rw [List.take_add_one, h, List.map_append]; rfl
def anRS428 : Ann := ⟨[], [⟨6, [6], [], []⟩, ⟨21, [12], [], []⟩]⟩
set_option maxHeartbeats 8000000 in
theorem rnew28_pure (gt : GT) (h : OkgT gt) (hs : SmlG (mkG gt)) : DPure Tryz.prog 28 [dRuls (mkG gt)] (refM (autL gt)) := by
 refine DPure_introF [201, 202, 203, 204, 205, 3, 2] (fn := Tryz.f28) Tryz.func28 rfl Tryz.call28 (by simp [Tryz.ntmps28]) (by simp [mx, refM, mxL]) ?_
 intro hwf B hnt
 simp only [Tryz.ntmps28] at hnt
 have hA := an_is anRS428 Tryz.mixed (aj2 @anRS428.eq_1 Tryz.results28)
 clear hwf
 simp only [argS]
 have hgl := mkG_len gt
 have hle := h.le
 have hhd := h.hd
 have e1 := rheads39_pure (mkG gt)
 have hal := autL_len gt
 have hsm := autL_sm h
 obtain ⟨R, hR⟩ : ∃ R, R = refM (autL gt) := ⟨_, rfl⟩
 rw [← hR]
 have hbx : ∀ i s, (headsL (mkG gt))[i]? = some s → _ := fun i s hi => autL_at (gt := gt) hi
 have hb1 : ∀ s, _ := fun s => rbodies92_pure (mkG gt) s (by omega)
 have hb2 : ∀ s, _ := fun s => rof19_ok h hs s
 obtain ⟨A, hA⟩ : ∃ A, A = autL gt := ⟨_, rfl⟩
 rw [← hA] at hR hal hsm hbx
 obtain ⟨H, hH⟩ : ∃ H, H = headsL (mkG gt) := ⟨_, rfl⟩
 rw [← hH] at e1 hal hhd hbx
 obtain ⟨g, hg⟩ : ∃ g, g = mkG gt := ⟨_, rfl⟩
 rw [← hg] at e1 hb1 hb2 hbx ⊢
 clear hH hs hA
 (refine go1 (aj1 e1) aj0 aj0 ?_; intros; refine mk_i ?_)
 refine DW_adoptC 3 1 201 3 1 8 (by simp) (fun n1 => ?_)
 refine DW_adoptC 3 2 202 3 1 8 (by simp) (fun n2 => ?_)
 refine DW_adoptC 3 3 203 3 1 8 (by simp) (fun n3 => ?_)
 refine DW_adoptC 3 4 204 49 4 32 (by simp) (fun n4 => ?_)
 refine DW_adoptC 3 5 205 31 3 56 (by simp) (fun n5 => ?_)
 refine DW_loop (X := {i : Nat // i ≤ H.length}) (fun i => ⟨[(0, dRuls g), (2, .bx 2 1 0), (3, .bx 3 1 0), (4, dStrs H), (5, .int .i64 i.1)],
  [⟨2, 1, .box [.int .i64 0, .nilsl, .nilsl, .nilsl, .nilsl, .nilsl]⟩, ⟨3, 1, .box [.int .i64 (sumS (A.take i.1)), .osl 201 1, .osl 202 1, .osl 203 1, .osl 204 1, .osl 205 1]⟩,
   ⟨201, 1, .row 3 1 8 ((stL (A.take i.1)).map natD)⟩, ⟨202, 1, .row 3 1 8 ((ntL (A.take i.1)).map natD)⟩, ⟨203, 1, .row 3 1 8 ((finA (A.take i.1)).map dNum)⟩, ⟨204, 1, .row 49 4 32 ((arcA (A.take i.1)).map dArc)⟩, ⟨205, 1, .row 31 3 56 ((A.take i.1).map dAuto)⟩]⟩) (fun i => H.length - i.1) ⟨0, by simp⟩ (Sub.lit (by simp [sumS, stL, ntL, finA, arcA, parA])) ?_
 rintro ⟨i, hi⟩
 simp only
 by_cases hlt : i < H.length
 ·obtain ⟨s, hx, hx', hxm⟩ := at_lt' hlt
  have hai := hbx i s hx
  obtain ⟨a, ha⟩ : ∃ a, a = boxA (syG g) (tsL gt s) := ⟨_, rfl⟩
  have e3 := hb1 s
  have e4 := hb2 s
  rw [← ha] at hai e4
  have hsa := hsm a (List.mem_of_getElem? hai)
  have hst := ok_st hsa.ok
  have hss := sumS_snoc (A.take i) a
  have hs1 := stL_snoc (A.take i) a
  have hs2 := ntL_snoc (A.take i) a
  have hs3 := finA_snoc (A.take i) a
  have hs4 := arcA_snoc (A.take i) a
  rw [← take_snoc hai] at hss hs1 hs2 hs3 hs4
  have hs5 : List.take (i + 1) (List.map dAuto A) = (A.take i).map dAuto ++ [[.int .i64 a.st, dNums a.fin, dArcs a.arcs]] := by rw [← List.map_take, map_take_snoc dAuto hai]; rfl
  have hmt : ∀ x ∈ A.take i, SmA x := fun x hx => hsm x (List.mem_of_mem_take hx)
  have hsl := sumS_le (l := A.take i) fun x hx => (hmt x hx).ok
  have hl1 := stL_len (A.take i)
  have hl2 := ntL_len (A.take i)
  have hl3 := finA_len hmt 0
  have hl4 := arcA_len hmt 0
  have hl5 : (A.take i).length = i := by rw [List.length_take]; omega
  rw [hl5] at hsl hl1 hl3 hl4 hs2
  have hi16 : i ≤ 16 := by omega
  have hl3' : (finA (A.take i)).length ≤ 1040 := Nat.le_trans (show _ ≤ 65 * i from hl3) (Nat.mul_le_mul_left 65 hi16)
  have hl4' : (arcA (A.take i)).length ≤ 17179870208 := Nat.le_trans (show _ ≤ 1073741888 * i from hl4) (Nat.mul_le_mul_left 1073741888 hi16)
  have hsl' : sumS (A.take i) ≤ 1040 := Nat.le_trans hsl (Nat.mul_le_mul_left 65 hi16)
  clear hl3 hl4 hsl
  obtain ⟨S, hS⟩ : ∃ S, S = sumS (A.take i) := ⟨_, rfl⟩
  rw [← hS] at hss hsl' hs1 hs3 hs4 hl2 ⊢
  obtain ⟨T1, hT1⟩ : ∃ T, T = stL (A.take i) := ⟨_, rfl⟩
  obtain ⟨T2, hT2⟩ : ∃ T, T = ntL (A.take i) := ⟨_, rfl⟩
  obtain ⟨T3, hT3⟩ : ∃ T, T = finA (A.take i) := ⟨_, rfl⟩
  obtain ⟨T4, hT4⟩ : ∃ T, T = arcA (A.take i) := ⟨_, rfl⟩
  obtain ⟨T5, hT5⟩ : ∃ T, T = A.take i := ⟨_, rfl⟩
  rw [← hT1] at hs1 hl1 ⊢
  rw [← hT2] at hs2 hl2 ⊢
  rw [← hT3] at hs3 hl3' ⊢
  rw [← hT4] at hs4 hl4' ⊢
  rw [← hT5] at hs5 hl5 ⊢
  clear hT1 hT2 hT3 hT4 hT5 hmt hS
  have hq1 := congrArg (List.map natD) hs1
  have hq2 := congrArg (List.map natD) hs2
  have hq3 := congrArg (List.map dNum) hs3
  have hq4 := congrArg (List.map dArc) hs4
  rw [List.map_append] at hq1 hq2 hq3 hq4
  have hb1' : (T1.length + 1) * 8 ≤ 150000000000000 := by omega
  have hb5' : (T5.length + 1) * 56 ≤ 150000000000000 := by omega
  have hwk : IntKind.i64.wrap ((i : Int) + 1) = (i : Int) + 1 := wrap64_in (by omega) (by omega)
  simp only [dAuto] at e4
  (refine go1 (aj2 e3 e4) aj0 (aj7 @dStr.eq_1 @dAuto.eq_1 hlt hx hx' hb1' hb5') ?_; intros; refine mk_i ?_)
  refine DW_loop (X := {j : Nat // j ≤ a.st.toNat}) (fun j => ⟨[(0, dRuls g), (2, .bx 2 1 0), (3, .bx 3 1 0), (4, dStrs H), (5, .int .i64 i), (6, .ref [.int .i64 a.st, dNums a.fin, dArcs a.arcs]), (8, .int .i64 (S : Int)), (9, .int .i64 j.1)],
    [⟨2, 1, .box [.int .i64 0, .nilsl, .nilsl, .nilsl, .nilsl, .nilsl]⟩, ⟨3, 1, .box [.int .i64 (S : Int), .osl 201 1, .osl 202 1, .osl 203 1, .osl 204 1, .osl 205 1]⟩,
     ⟨201, 1, .row 3 1 8 (T1.map natD ++ [[.int .i64 (S : Int)]])⟩, ⟨202, 1, .row 3 1 8 (T2.map natD ++ List.replicate j.1 (natD i))⟩, ⟨203, 1, .row 3 1 8 (T3.map dNum)⟩, ⟨204, 1, .row 49 4 32 (T4.map dArc)⟩, ⟨205, 1, .row 31 3 56 (T5.map dAuto ++ [[.int .i64 a.st, dNums a.fin, dArcs a.arcs]])⟩]⟩) (fun j => a.st.toNat - j.1) ⟨0, by simp⟩ (Sub.lit (by simp)) ?_
  rintro ⟨j, hj⟩
  simp only
  by_cases hlt2 : j < a.st.toNat
  · have hrp : List.replicate (j + 1) (natD i) = List.replicate j (natD i) ++ [[.int .i64 (i : Int)]] := by rw [List.replicate_succ']; rfl
    have hZm := mx_repN j i
    have hji : (j : Int) < a.st := by omega
    have hrl : (List.replicate j (natD i)).length = j := by simp
    obtain ⟨Z, hZ⟩ : ∃ Z, Z = List.replicate j (natD i) := ⟨_, rfl⟩
    rw [← hZ] at hrp hrl hZm ⊢
    have hb2' : (T2.length + Z.length + 1) * 8 ≤ 150000000000000 := by omega
    have hwj : IntKind.i64.wrap ((j : Int) + 1) = (j : Int) + 1 := wrap64_in (by omega) (by omega)
    (refine go1 aj0 aj0 (aj3 hji hb2' hwj) ?_; intros; refine mk_i ?_)
    refine Again.mk ⟨j + 1, by omega⟩ (Sub.lit (by simp [hrp, hZm])) (by simp; omega)
    skip
  · have hkk : j = a.st.toNat := by omega
    subst hkk
    have hji : ¬ ((a.st.toNat : Nat) : Int) < a.st := by omega
    (refine go1 aj0 aj0 (aj1 hji) ?_; intros; refine mk_i ?_)
    rw [List.map_replicate] at hq2
    obtain ⟨FA, hFA⟩ : ∃ FA, FA = a.fin.map (mvF S) := ⟨_, rfl⟩
    obtain ⟨AR, hAR⟩ : ∃ AR, AR = a.arcs.map (mvA S) := ⟨_, rfl⟩
    have hFl : FA.length = a.fin.length := by rw [hFA, List.length_map]
    have hAl : AR.length = a.arcs.length := by rw [hAR, List.length_map]
    rw [← hFA] at hq3
    rw [← hAR] at hq4
    obtain ⟨U1, hU1⟩ : ∃ U, U = T1.map natD ++ [[.int .i64 (S : Int)]] := ⟨_, rfl⟩
    have hm1 : mxR U1 = 0 := by rw [hU1]; simp [mxR, mxL, mx]
    obtain ⟨U2, hU2⟩ : ∃ U, U = T2.map natD ++ List.replicate a.st.toNat (natD i) := ⟨_, rfl⟩
    have hm2 : mxR U2 = 0 := by rw [hU2, ← List.map_replicate, ← List.map_append]; exact mxR0 natD (by intro x; simp [natD, mxL, mx]) _
    obtain ⟨U5, hU5⟩ : ∃ U, U = T5.map dAuto ++ [[.int .i64 a.st, dNums a.fin, dArcs a.arcs]] := ⟨_, rfl⟩
    have hm5 : mxR U5 = 0 := by rw [hU5, ← hs5]; rw [← List.map_take]; simp
    have hq1' : List.map natD (stL (List.take (i + 1) A)) = U1 := by rw [hU1, hq1]; rfl
    rw [← hU2] at hq2
    rw [← hU5] at hs5
    rw [← hU1, ← hU2, ← hU5]
    refine DW_loop (X := {j : Nat // j ≤ a.fin.length}) (fun j => ⟨[(0, dRuls g), (2, .bx 2 1 0), (3, .bx 3 1 0), (4, dStrs H), (5, .int .i64 i), (6, .ref [.int .i64 a.st, dNums a.fin, dArcs a.arcs]), (8, .int .i64 (S : Int)), (10, .int .i64 j.1)],
      [⟨2, 1, .box [.int .i64 0, .nilsl, .nilsl, .nilsl, .nilsl, .nilsl]⟩, ⟨3, 1, .box [.int .i64 (S : Int), .osl 201 1, .osl 202 1, .osl 203 1, .osl 204 1, .osl 205 1]⟩,
       ⟨201, 1, .row 3 1 8 U1⟩, ⟨202, 1, .row 3 1 8 U2⟩, ⟨203, 1, .row 3 1 8 (T3.map dNum ++ (FA.take j.1).map dNum)⟩, ⟨204, 1, .row 49 4 32 (T4.map dArc)⟩, ⟨205, 1, .row 31 3 56 U5⟩]⟩) (fun j => a.fin.length - j.1) ⟨0, by simp⟩ (Sub.lit (by simp [hm1, hm2, hm5])) ?_
    rintro ⟨j, hj⟩
    simp only
    by_cases hlt3 : j < a.fin.length
    · obtain ⟨q, hq, hq', hqm⟩ := at_lt' hlt3
      have hqk := ok_fin hsa.ok hqm
      have hFj : FA[j]? = some ((S : Int) + q) := by rw [hFA, List.getElem?_map, hq]; rfl
      have hrp : List.take (j + 1) (List.map dNum FA) = (FA.take j).map dNum ++ [[.int .i64 ((S : Int) + q)]] := by rw [← List.map_take, map_take_snoc dNum hFj]; rfl
      have hrl : (FA.take j).length = j := by rw [List.length_take]; omega
      obtain ⟨Z, hZ⟩ : ∃ Z, Z = FA.take j := ⟨_, rfl⟩
      rw [← hZ] at hrp hrl ⊢
      have hfi := hsa.fi
      have hb2' : (T3.length + Z.length + 1) * 8 ≤ 150000000000000 := by omega
      have hwj : IntKind.i64.wrap ((j : Int) + 1) = (j : Int) + 1 := wrap64_in (by omega) (by omega)
      have hwq : IntKind.i64.wrap ((S : Int) + q) = (S : Int) + q := wrap64_in (by omega) (by omega)
      (refine go1 aj0 aj0 (aj7 @dNum.eq_1 hlt3 hq hq' hb2' hwj hwq) ?_; intros; refine mk_i ?_)
      refine Again.mk ⟨j + 1, by omega⟩ (Sub.lit (by simp [hrp, hm1, hm2, hm5])) (by simp; omega)
      skip
    · have hkk : j = a.fin.length := by omega
      subst hkk
      rw [show List.take a.fin.length FA = FA from List.take_of_length_le (by omega), ← hq3]
      (refine go1 aj0 aj0 aj0 ?_; intros; refine mk_i ?_)
      refine DW_loop (X := {j : Nat // j ≤ a.arcs.length}) (fun j => ⟨[(0, dRuls g), (2, .bx 2 1 0), (3, .bx 3 1 0), (4, dStrs H), (5, .int .i64 i), (6, .ref [.int .i64 a.st, dNums a.fin, dArcs a.arcs]), (8, .int .i64 (S : Int)), (11, .int .i64 j.1)],
        [⟨2, 1, .box [.int .i64 0, .nilsl, .nilsl, .nilsl, .nilsl, .nilsl]⟩, ⟨3, 1, .box [.int .i64 (S : Int), .osl 201 1, .osl 202 1, .osl 203 1, .osl 204 1, .osl 205 1]⟩,
         ⟨201, 1, .row 3 1 8 U1⟩, ⟨202, 1, .row 3 1 8 U2⟩, ⟨203, 1, .row 3 1 8 ((finA (A.take (i + 1))).map dNum)⟩, ⟨204, 1, .row 49 4 32 (T4.map dArc ++ (AR.take j.1).map dArc)⟩, ⟨205, 1, .row 31 3 56 U5⟩]⟩) (fun j => a.arcs.length - j.1) ⟨0, by simp⟩ (Sub.lit (by simp [hm1, hm2, hm5])) ?_
      rintro ⟨j, hj⟩
      simp only
      by_cases hlt4 : j < a.arcs.length
      · obtain ⟨x, hx, hx', hxm⟩ := at_lt' hlt4
        have hxk := ok_arc hsa.ok hxm
        have hAj : AR[j]? = some (mvA S x) := by rw [hAR, List.getElem?_map, hx]; rfl
        have hrp : List.take (j + 1) (List.map dArc AR) = (AR.take j).map dArc ++ [[.int .i64 ((S : Int) + x.fr), .bool x.sy.label, .int .i64 x.sy.n, .int .i64 ((S : Int) + x.to)]] := by rw [← List.map_take, map_take_snoc dArc hAj]; rfl
        have hrl : (AR.take j).length = j := by rw [List.length_take]; omega
        obtain ⟨Z, hZ⟩ : ∃ Z, Z = AR.take j := ⟨_, rfl⟩
        rw [← hZ] at hrp hrl ⊢
        have har := hsa.ar
        have hb2' : (T4.length + Z.length + 1) * 32 ≤ 150000000000000 := bnd_a hl4' (by rw [hrl]; exact hlt4) har
        have hwj : IntKind.i64.wrap ((j : Int) + 1) = (j : Int) + 1 := wrap_j hlt4 har
        have hwq : IntKind.i64.wrap ((S : Int) + x.fr) = (S : Int) + x.fr := wrap_s hsl' hxk.1 hxk.2.1 hst.2
        have hwr : IntKind.i64.wrap ((S : Int) + x.to) = (S : Int) + x.to := wrap_s hsl' hxk.2.2.1 hxk.2.2.2 hst.2
        (refine go1 aj0 aj0 (aj8 @dArc.eq_1 hlt4 hx hx' hb2' hwj hwq hwr) ?_; intros; refine mk_i ?_)
        refine Again.mk ⟨j + 1, by omega⟩ (Sub.lit (by simp [hrp, hm1, hm2, hm5])) (by simp; omega)
        skip
      · have hkk : j = a.arcs.length := by omega
        subst hkk
        rw [show List.take a.arcs.length AR = AR from List.take_of_length_le (by omega), ← hq4]
        have hws : IntKind.i64.wrap ((S : Int) + a.st) = (sumS (A.take (i + 1)) : Int) := by rw [wrap64_in (by omega) (by omega), hss]; omega
        (refine go1 aj0 aj0 (aj2 hws hwk) ?_; intros; refine mk_i ?_)
        refine Again.mk ⟨i + 1, by omega⟩ (Sub.lit (by simp [hq1', hq2, hs5, hm1, hm2, hm5])) (by simp; omega)
        skip
 ·have hkk : i = H.length := by omega
  subst hkk
  have hAt : A.take H.length = A := List.take_of_length_le (by omega)
  rw [hAt]
  unfold refM at hR
  (refine go1 aj0 aj0 aj0 ?_; intros; refine mk_i ?_)
  rw [hR]
  exact wk_refl (.agg [.int .i64 (sumS A), dNats (stL A), dNats (ntL A), dNums (finA A), dArcs (arcA A), dAutos A])
end Go.Proofs.YtdgocjbakjamaaaGreat
end

section
namespace Go.Proofs.YtdgocjbakjamaaaGreat
open Go Go.Dm
attribute [local irreducible] DW callP callS
set_option maxRecDepth 100000
def anRS595 : Ann := ⟨[5], []⟩
set_option maxHeartbeats 1000000 in
theorem cloneI_spec (l : List Int) (hl : l.length * 8 ≤ 140737488355328) : DSpec Tryz.prog (.func 95) [dNums l] [] (.osl 0 1) [⟨0, 1, .row 3 1 8 (l.map dNum)⟩] := by
 match l, hl with
 | [], _ =>
  refine DSpec_sl ?_ ?_
  ·refine DSpec_nilrow ?_
   refine DPure_introF [] (fn := Tryz.f95) Tryz.func95 rfl Tryz.call95 (by simp [Tryz.ntmps95]) (by simp [mx]) ?_
   intro hwf B hnt
   simp only [Tryz.ntmps95] at hnt
   have hA := an_is anRS595 Tryz.mixed (aj2 @anRS595.eq_1 Tryz.results95)
   simp only [argS]
   exact go0 aj0 aj0 aj0
  ·refine DSpec_intro [] [(5, 0, 1)] (fn := Tryz.f95) Tryz.func95 rfl Tryz.call95 (by simp [Tryz.ntmps95]) (by simp) (by simp) ?_
   intro hwf B hnt
   simp only [Tryz.ntmps95] at hnt
   have hA := an_is anRS595 Tryz.mixed (aj2 @anRS595.eq_1 Tryz.results95)
   simp only [argS, List.nil_append]
   exact go0 aj0 aj0 aj0
 | x :: l, hl =>
  refine DSpec_intro [] [(5, 0, 1)] (fn := Tryz.f95) Tryz.func95 rfl Tryz.call95 (by simp [Tryz.ntmps95]) (by simp) (by simp) ?_
  intro hwf B hnt
  simp only [Tryz.ntmps95] at hnt
  have hA := an_is anRS595 Tryz.mixed (aj2 @anRS595.eq_1 Tryz.results95)
  simp only [List.length_cons] at hl
  have hl2 : (l.length + 1) * 8 ≤ 150000000000000 := by omega
  have hl3 : l.length < 9223372036854775807 := by omega
  simp only [argS, List.nil_append, List.map_cons, dNums, dNum]
  exact go0 aj0 aj0 aj0
def anRS596 : Ann := ⟨[5], []⟩
set_option maxHeartbeats 1000000 in
theorem cloneA_spec (l : List Arc) (hl : l.length * 32 ≤ 140737488355328) : DSpec Tryz.prog (.func 96) [dArcs l] [] (.osl 0 1) [⟨0, 1, .row 49 4 32 (l.map dArc)⟩] := by
 match l, hl with
 | [], _ =>
  refine DSpec_sl ?_ ?_
  ·refine DSpec_nilrow ?_
   refine DPure_introF [] (fn := Tryz.f96) Tryz.func96 rfl Tryz.call96 (by simp [Tryz.ntmps96]) (by simp [mx]) ?_
   intro hwf B hnt
   simp only [Tryz.ntmps96] at hnt
   have hA := an_is anRS596 Tryz.mixed (aj2 @anRS596.eq_1 Tryz.results96)
   simp only [argS]
   exact go0 aj0 aj0 aj0
  ·refine DSpec_intro [] [(5, 0, 1)] (fn := Tryz.f96) Tryz.func96 rfl Tryz.call96 (by simp [Tryz.ntmps96]) (by simp) (by simp) ?_
   intro hwf B hnt
   simp only [Tryz.ntmps96] at hnt
   have hA := an_is anRS596 Tryz.mixed (aj2 @anRS596.eq_1 Tryz.results96)
   simp only [argS, List.nil_append]
   exact go0 aj0 aj0 aj0
 | x :: l, hl =>
  refine DSpec_intro [] [(5, 0, 1)] (fn := Tryz.f96) Tryz.func96 rfl Tryz.call96 (by simp [Tryz.ntmps96]) (by simp) (by simp) ?_
  intro hwf B hnt
  simp only [Tryz.ntmps96] at hnt
  have hA := an_is anRS596 Tryz.mixed (aj2 @anRS596.eq_1 Tryz.results96)
  simp only [List.length_cons] at hl
  have hl2 : (l.length + 1) * 32 ≤ 150000000000000 := by omega
  have hl3 : l.length < 9223372036854775807 := by omega
  simp only [argS, List.nil_append, List.map_cons, dArcs, dArc]
  exact go0 aj0 aj0 aj0
theorem set_step {α β : Type} {l : List α} {i : Nat} {x : α} (f : α → β) (g : α → α) (h : l[i]? = some x) : (((l.take i).map g ++ l.drop i).map f).set i (f (g x)) = ((l.take (i + 1)).map g ++ l.drop (i + 1)).map f := by
 obtain ⟨hi, rfl⟩ := List.getElem?_eq_some_iff.1 h
 have h2 : ((l.take i).map g).length = i := by rw [List.length_map, List.length_take]; omega
 have h3 : ((l.take i).map g ++ l.drop i).set i (g l[i]) = (l.take (i + 1)).map g ++ l.drop (i + 1) := by
  rw [List.set_append, if_neg (by omega), h2, Nat.sub_self, List.drop_eq_getElem_cons hi, List.set_cons_zero, List.take_add_one, List.getElem?_eq_getElem hi, List.map_append, List.append_assoc]
  rfl
 rw [← List.map_set, h3]
theorem mid_at {α : Type} {l : List α} {i : Nat} {x : α} (g : α → α) (h : l[i]? = some x) : ((l.take i).map g ++ l.drop i)[i]? = some x := by
 obtain ⟨hi, rfl⟩ := List.getElem?_eq_some_iff.1 h
 have h2 : ((l.take i).map g).length = i := by rw [List.length_map, List.length_take]; omega
 rw [List.getElem?_append_right (by omega), h2, Nat.sub_self, List.getElem?_drop]
 simp [hi]
theorem mid_len {α : Type} (l : List α) (i : Nat) (g : α → α) (h : i ≤ l.length) : ((l.take i).map g ++ l.drop i).length = l.length := by
 rw [List.length_append, List.length_map, List.length_take, List.length_drop]; omega
def midF (f : Nat) (l : List Int) (i : Nat) : List Int := (l.take i).map (mvF f) ++ l.drop i
def midA (g : Arc → Arc) (l : List Arc) (i : Nat) : List Arc := (l.take i).map g ++ l.drop i
def movF (f : Nat) (l : List Int) : List Int := l.map (mvF f)
def movA (f : Nat) (l : List Arc) : List Arc := l.map (mvA f)
theorem midF_zero (f : Nat) (l : List Int) : midF f l 0 = l := by simp [midF]
theorem midF_all (f : Nat) (l : List Int) : midF f l l.length = movF f l := by simp [midF, movF]
theorem midA_zero (g : Arc → Arc) (l : List Arc) : midA g l 0 = l := by simp [midA]
theorem midA_all (f : Nat) (l : List Arc) : midA (mvA f) l l.length = movA f l := by simp [midA, movA]
def anRS5104 : Ann := ⟨[8], []⟩
set_option maxHeartbeats 2000000 in
theorem ends104_pure (a : Auto) (f : Nat) (h : SmA a) (hf : f ≤ 1040) : DPure Tryz.prog 104 [.agg (dPt (a, f))] (dNums (movF f a.fin)) := by
 refine DPure_introF [8] (fn := Tryz.f104) Tryz.func104 rfl Tryz.call104 (by simp [Tryz.ntmps104]) (by simp [mx]) ?_
 intro hwf B hnt
 simp only [Tryz.ntmps104] at hnt
 have hA := an_is anRS5104 Tryz.mixed (aj2 @anRS5104.eq_1 Tryz.results104)
 clear hwf
 simp only [argS]
 have hfi := h.fi
 have hst := ok_st h.ok
 have e1 := cloneI_spec a.fin (by omega)
 have z0 := midF_zero f a.fin
 (repeat (first | refine DW_seq fun K hK => ?_ | (refine DW_r anRS5104 Tryz.mixed (by kernel_rfl) ?_; simp [anRS5104, hnt, dPt]; try simp (disch := omega) only [wrap64_in]) | refine DW_block ?_ | (refine DW_if ?_ ?_ ?_; (· (simp [hnt, dPt]; done)); (try (rotate_left; (· (intro hc; (try simp [hnt, dPt] at hc); done))))) | (refine DW_ret ?_; simp [Tryz.results104, hnt, dPt]) | ((first | refine DW_exit ?_ | refine DW_skip ?_); simp [hnt, dPt]) | (intro hc; (try simp [hnt, dPt] at hc); (try (exfalso; omega))) | (refine callS_mk [] [(8,0)] (e1) ?_ ?_; (· (simp [hnt, dPt]; done)); (intro _; try simp [hnt, dPt])) | (refine ⟨?_, ?_⟩; · omega) | omega | apply_assumption -exfalso -symm | (exfalso; omega)))
 refine DW_loop (X := {i : Nat // i ≤ a.fin.length}) (fun i => ⟨[(1, .ref [.int .i64 a.st, dNums a.fin, dArcs a.arcs, .int .i64 (f : Int)]), (3, .osl 8 1), (10, .int .i64 a.fin.length), (11, .int .i64 i.1)], [⟨8, 1, .row 3 1 8 ((midF f a.fin i.1).map dNum)⟩]⟩) (fun i => a.fin.length - i.1) ⟨0, by simp⟩ (Sub.lit (by simp [z0])) ?_
 rintro ⟨i, hi⟩
 simp only
 by_cases hlt : i < a.fin.length
 ·obtain ⟨q, hq, hq', hqm⟩ := at_lt' hlt
  have hqk := ok_fin h.ok hqm
  have s1 : ((midF f a.fin i).map dNum).set i [.int .i64 ((f : Int) + q)] = (midF f a.fin (i + 1)).map dNum := set_step dNum (mvF f) hq
  have m1 : (midF f a.fin i)[i]? = some q := mid_at (mvF f) hq
  have m2 : (midF f a.fin i).length = a.fin.length := mid_len a.fin i (mvF f) hi
  obtain ⟨Z, hZ⟩ : ∃ Z, Z = midF f a.fin i := ⟨_, rfl⟩
  rw [← hZ] at s1 m1 m2 ⊢
  have hzl : i < Z.length := by omega
  have m1' : Z[i]'hzl = q := (List.getElem?_eq_some_iff.1 m1).2
  have hwi : IntKind.i64.wrap ((i : Int) + 1) = (i : Int) + 1 := wrap64_in (by omega) (by omega)
  have hwq : IntKind.i64.wrap (q + (f : Int)) = (f : Int) + q := by rw [wrap64_in (by omega) (by omega)]; omega
  (refine go1 aj0 aj0 (aj8 @dNum.eq_1 hlt m1 m1' hzl hwi hwq s1) ?_; intros; refine mk_i ?_)
  refine Again.mk ⟨i + 1, by omega⟩ (Sub.lit (by simp)) (by simp; omega)
  skip
 ·have hkk : i = a.fin.length := by omega
  subst hkk
  rw [midF_all]
  exact go0 aj0 aj0 aj0
def anRS5106 : Ann := ⟨[8], []⟩
set_option maxHeartbeats 2000000 in
theorem moved106_pure (a : Auto) (f : Nat) (h : SmA a) (hf : f ≤ 1040) : DPure Tryz.prog 106 [.agg (dPt (a, f))] (dArcs (movA f a.arcs)) := by
 refine DPure_introF [8] (fn := Tryz.f106) Tryz.func106 rfl Tryz.call106 (by simp [Tryz.ntmps106]) (by simp [mx]) ?_
 intro hwf B hnt
 simp only [Tryz.ntmps106] at hnt
 have hA := an_is anRS5106 Tryz.mixed (aj2 @anRS5106.eq_1 Tryz.results106)
 clear hwf
 simp only [argS]
 have har := h.ar
 have hst := ok_st h.ok
 have e1 := cloneA_spec a.arcs (by omega)
 have z0 := midA_zero (mvA f) a.arcs
 (repeat (first | refine DW_seq fun K hK => ?_ | (refine DW_r anRS5106 Tryz.mixed (by kernel_rfl) ?_; simp [anRS5106, hnt, dPt]; try simp (disch := omega) only [wrap64_in]) | refine DW_block ?_ | (refine DW_if ?_ ?_ ?_; (· (simp [hnt, dPt]; done)); (try (rotate_left; (· (intro hc; (try simp [hnt, dPt] at hc); done))))) | (refine DW_ret ?_; simp [Tryz.results106, hnt, dPt]) | ((first | refine DW_exit ?_ | refine DW_skip ?_); simp [hnt, dPt]) | (intro hc; (try simp [hnt, dPt] at hc); (try (exfalso; omega))) | (refine callS_mk [] [(8,0)] (e1) ?_ ?_; (· (simp [hnt, dPt]; done)); (intro _; try simp [hnt, dPt])) | (refine ⟨?_, ?_⟩; · omega) | omega | apply_assumption -exfalso -symm | (exfalso; omega)))
 refine DW_loop (X := {i : Nat // i ≤ a.arcs.length}) (fun i => ⟨[(1, .ref [.int .i64 a.st, dNums a.fin, dArcs a.arcs, .int .i64 (f : Int)]), (3, .osl 8 1), (10, .int .i64 a.arcs.length), (11, .int .i64 i.1)], [⟨8, 1, .row 49 4 32 ((midA (mvA f) a.arcs i.1).map dArc)⟩]⟩) (fun i => a.arcs.length - i.1) ⟨0, by simp⟩ (Sub.lit (by simp [z0])) ?_
 rintro ⟨i, hi⟩
 simp only
 by_cases hlt : i < a.arcs.length
 ·obtain ⟨x, hx, hx', hxm⟩ := at_lt' hlt
  have hxk := ok_arc h.ok hxm
  have s1 : ((midA (mvA f) a.arcs i).map dArc).set i [.int .i64 ((f : Int) + x.fr), .bool x.sy.label, .int .i64 x.sy.n, .int .i64 ((f : Int) + x.to)] = (midA (mvA f) a.arcs (i + 1)).map dArc := set_step dArc (mvA f) hx
  have m1 : (midA (mvA f) a.arcs i)[i]? = some x := mid_at (mvA f) hx
  have m2 : (midA (mvA f) a.arcs i).length = a.arcs.length := mid_len a.arcs i (mvA f) hi
  obtain ⟨Z, hZ⟩ : ∃ Z, Z = midA (mvA f) a.arcs i := ⟨_, rfl⟩
  rw [← hZ] at s1 m1 m2 ⊢
  have hzl : i < Z.length := by omega
  have m1' : Z[i]'hzl = x := (List.getElem?_eq_some_iff.1 m1).2
  have hwi : IntKind.i64.wrap ((i : Int) + 1) = (i : Int) + 1 := wrap_j hlt har
  have hwq : IntKind.i64.wrap (x.fr + (f : Int)) = (f : Int) + x.fr := by rw [wrap64_in (by omega) (by omega)]; omega
  have hwr : IntKind.i64.wrap (x.to + (f : Int)) = (f : Int) + x.to := by rw [wrap64_in (by omega) (by omega)]; omega
  clear hst har hxk hf
  (refine go1 aj0 aj0 (aj9 @dArc.eq_1 hlt m1 m1' hzl hwi hwq hwr s1) ?_; intros; refine mk_i ?_)
  refine Again.mk ⟨i + 1, by omega⟩ (Sub.lit (by simp)) (by simp; omega)
  skip
 ·have hkk : i = a.arcs.length := by omega
  subst hkk
  rw [midA_all]
  exact go0 aj0 aj0 aj0
end Go.Proofs.YtdgocjbakjamaaaGreat
end

section
namespace Go.Proofs.YtdgocjbakjamaaaGreat
open Go Go.Dm
attribute [local irreducible] DW callP callS
set_option maxRecDepth 100000
def anRS694 : Ann := ⟨[], []⟩
theorem mthere94_pure (H L : List ByteArray) (xs : List Auto) : DPure Tryz.prog 94 [dMach H L xs] (.bool true) := by
 refine DPure_introF [] (fn := Tryz.f94) Tryz.func94 rfl Tryz.call94 (by simp [Tryz.ntmps94]) (by simp [mx]) ?_
 intro hwf B hnt
 simp only [Tryz.ntmps94] at hnt
 have hA := an_is anRS694 Tryz.mixed (aj2 @anRS694.eq_1 Tryz.results94)
 clear hwf
 simp only [argS, dMach]
 exact go0 aj0 aj0 aj0
def finM (P : List (Auto × Nat)) : List Int := P.flatMap fun p => movF p.2 p.1.fin
def arcM (P : List (Auto × Nat)) : List Arc := P.flatMap fun p => movA p.2 p.1.arcs
theorem finM_next {P : List (Auto × Nat)} {i : Nat} {p : Auto × Nat} (h : P[i]? = some p) : finM (P.take (i + 1)) = finM (P.take i) ++ movF p.2 p.1.fin := by
 unfold finM
 rw [List.take_add_one, h, List.flatMap_append]
 simp
theorem arcM_next {P : List (Auto × Nat)} {i : Nat} {p : Auto × Nat} (h : P[i]? = some p) : arcM (P.take (i + 1)) = arcM (P.take i) ++ movA p.2 p.1.arcs := by
 unfold arcM
 rw [List.take_add_one, h, List.flatMap_append]
 simp
theorem finM_len : ∀ {P : List (Auto × Nat)}, (∀ p ∈ P, SmA p.1) → (finM P).length ≤ 65 * P.length
 | [], _ => by simp [finM]
 | p :: P, h => by
  have h1 := (h p List.mem_cons_self).fi
  have h2 := finM_len (P := P) fun x hx => h x (List.mem_cons_of_mem _ hx)
  have h3 : finM (p :: P) = movF p.2 p.1.fin ++ finM P := by simp [finM]
  rw [h3, List.length_append, List.length_cons]
  unfold movF
  rw [List.length_map]
  omega
theorem arcM_len : ∀ {P : List (Auto × Nat)}, (∀ p ∈ P, SmA p.1) → (arcM P).length ≤ 1073741888 * P.length
 | [], _ => by simp [arcM]
 | p :: P, h => by
  have h1 := (h p List.mem_cons_self).ar
  have h2 := arcM_len (P := P) fun x hx => h x (List.mem_cons_of_mem _ hx)
  have h3 : arcM (p :: P) = movA p.2 p.1.arcs ++ arcM P := by simp [arcM]
  rw [h3, List.length_append, List.length_cons]
  unfold movA
  rw [List.length_map]
  omega
theorem finM_all (xs : List Auto) : finM (parA 0 xs) = finA xs := rfl
theorem arcM_all (xs : List Auto) : arcM (parA 0 xs) = arcA xs := rfl
theorem parA_mem : ∀ {xs : List Auto} {f : Nat} {p : Auto × Nat}, p ∈ parA f xs → p.1 ∈ xs ∧ p.2 ≤ f + sumS xs
 | [], _, _, h => by simp [parA] at h
 | a :: xs, f, p, h => by
  have h3 : sumS (a :: xs) = a.st.toNat + sumS xs := by simp [sumS]
  rw [parA] at h
  rcases List.mem_cons.1 h with rfl | h
  ·exact ⟨List.mem_cons_self, by simp only; omega⟩
  ·have := parA_mem h
   exact ⟨List.mem_cons_of_mem _ this.1, by omega⟩
theorem bnd_c {a b : Nat} (h1 : a ≤ 17179870208) (h2 : b ≤ 1073741888) : (a + b) * 32 ≤ 150000000000000 := by omega
def anRS6105 : Ann := ⟨[], [⟨5, [7], [], []⟩]⟩
set_option maxHeartbeats 2000000 in
theorem eachA_pure (H L : List ByteArray) (xs : List Auto) (h : ∀ a ∈ xs, SmA a) (hl : xs.length ≤ 16) : DPure Tryz.prog 105 [dMach H L xs, .fn (.func 106) [] []] (dArcs (arcA xs)) := by
 refine DPure_introF [50] (fn := Tryz.f105) Tryz.func105 rfl Tryz.call105 (by simp [Tryz.ntmps105]) (by simp [mx]) ?_
 intro hwf B hnt
 simp only [Tryz.ntmps105] at hnt
 have hA := an_is anRS6105 Tryz.mixed (aj2 @anRS6105.eq_1 Tryz.results105)
 clear hwf
 have e1 := mthere94_pure H L xs
 have hsl := sumS_le (l := xs) fun a ha => (h a ha).ok
 have hs10 : sumS xs ≤ 1040 := Nat.le_trans hsl (Nat.mul_le_mul_left 65 hl)
 have hpl := parA_len xs 0
 have hP : ∀ p ∈ parA 0 xs, SmA p.1 ∧ p.2 ≤ 1040 := fun p hp => by
  have := parA_mem hp
  exact ⟨h _ this.1, by omega⟩
 rw [← arcM_all]
 simp only [argS, dMach] at e1 ⊢
 obtain ⟨P, hPP⟩ : ∃ P, P = parA 0 xs := ⟨_, rfl⟩
 rw [← hPP] at e1 hP hpl ⊢
 clear hPP hsl h
 iterate 6 ((first | refine DW_seq fun K hK => ?_ | (refine DW_r anRS6105 Tryz.mixed (by kernel_rfl) ?_; simp [anRS6105, hnt]; try simp (disch := omega) only [wrap64_in]) | refine DW_block ?_ | (refine DW_if ?_ ?_ ?_; (· (simp [hnt]; done)); (try (rotate_left; (· (intro hc; (try simp [hnt] at hc); done))))) | (refine DW_ret ?_; simp [Tryz.results105, hnt]) | ((first | refine DW_exit ?_ | refine DW_skip ?_); simp [hnt]) | (intro hc; (try simp [hnt] at hc); (try (exfalso; omega))) | (refine ⟨?_, ?_⟩; · omega) | omega | apply_assumption -exfalso -symm | (exfalso; omega)))
 refine DW_adoptS 5 50 49 4 32 (by simp [hnt, Tryz.results105, anRS6105]) (fun n => ?_)
 (refine go1 (aj1 e1) aj0 aj0 ?_; intros; refine mk_i ?_)
 refine DW_loop (X := {i : Nat // i ≤ P.length}) (fun i => ⟨[(1, .fn (.func 106) [] []), (5, .osl 50 1), (13, dPts P), (14, .int .i64 P.length), (15, .int .i64 i.1)], [⟨50, 1, .row 49 4 32 ((arcM (P.take i.1)).map dArc)⟩]⟩) (fun i => P.length - i.1) ⟨0, by simp⟩ (Sub.lit (by simp [arcM])) ?_
 rintro ⟨i, hi⟩
 simp only
 by_cases hlt : i < P.length
 ·obtain ⟨p, hp, hp', hpm⟩ := at_lt' hlt
  obtain ⟨k1, k2⟩ := hP p hpm
  obtain ⟨a, f⟩ := p
  have e2 := moved106_pure a f k1 k2
  have hnx := congrArg (List.map dArc) (arcM_next hp)
  rw [List.map_append] at hnx
  have har : a.arcs.length ≤ 1073741888 := k1.ar
  have hml : (movA f a.arcs).length = a.arcs.length := by unfold movA; rw [List.length_map]
  have htl := arcM_len (P := P.take i) fun x hx => (hP x (List.mem_of_mem_take hx)).1
  have h16 : (P.take i).length ≤ 16 := by rw [List.length_take]; omega
  have htl' : (arcM (P.take i)).length ≤ 17179870208 := Nat.le_trans htl (Nat.mul_le_mul_left 1073741888 h16)
  clear htl
  obtain ⟨T, hT⟩ : ∃ T, T = arcM (P.take i) := ⟨_, rfl⟩
  rw [← hT] at hnx htl' ⊢
  obtain ⟨V, hV⟩ : ∃ V, V = movA f a.arcs := ⟨_, rfl⟩
  simp only at hnx
  rw [← hV] at e2 hnx hml
  have hb : (T.length + V.length) * 32 ≤ 150000000000000 := bnd_c htl' (by omega)
  have hwi : IntKind.i64.wrap ((i : Int) + 1) = (i : Int) + 1 := wrap64_in (by omega) (by omega)
  simp only [dPt] at e2
  clear hP k1 k2 hpl hT hV
  (repeat (first | refine DW_seq fun K hK => ?_ | (refine DW_r anRS6105 Tryz.mixed (by kernel_rfl) ?_; simp [anRS6105, hnt, dPt, hlt, hp, hp', hb, hwi]; try simp (disch := omega) only [wrap64_in]) | refine DW_block ?_ | (refine DW_if ?_ ?_ ?_; (· (simp [hnt, dPt, hlt, hp, hp', hb, hwi]; done)); (try (rotate_left; (· (intro hc; (try simp [hnt, dPt, hlt, hp, hp', hb, hwi] at hc); done))))) | (refine DW_ret ?_; simp [Tryz.results105, hnt, dPt, hlt, hp, hp', hb, hwi]) | ((first | refine DW_exit ?_ | refine DW_skip ?_); simp [hnt, dPt, hlt, hp, hp', hb, hwi]) | (intro hc; (try simp [hnt, dPt, hlt, hp, hp', hb, hwi] at hc); (try (exfalso; omega))) | ((first | refine callP_mk (e2) ?_ | (refine callP_wk (e2) ?_ ?_; (· (simp; done)))); try simp [hnt, dPt, hlt, hp, hp', hb, hwi]) | (refine ⟨?_, ?_⟩; · omega) | omega | apply_assumption -exfalso -symm | (exfalso; omega)))
  refine Again.mk ⟨i + 1, by omega⟩ (Sub.lit (by simp [hnx])) (by simp; omega)
  skip
 ·have hkk : i = P.length := by omega
  subst hkk
  rw [List.take_length]
  exact go0 aj0 aj0 aj0
def anRS6103 : Ann := ⟨[], [⟨5, [7], [], []⟩]⟩
set_option maxHeartbeats 2000000 in
theorem eachF_pure (H L : List ByteArray) (xs : List Auto) (h : ∀ a ∈ xs, SmA a) (hl : xs.length ≤ 16) : DPure Tryz.prog 103 [dMach H L xs, .fn (.func 104) [] []] (dNums (finA xs)) := by
 refine DPure_introF [50] (fn := Tryz.f103) Tryz.func103 rfl Tryz.call103 (by simp [Tryz.ntmps103]) (by simp [mx]) ?_
 intro hwf B hnt
 simp only [Tryz.ntmps103] at hnt
 have hA := an_is anRS6103 Tryz.mixed (aj2 @anRS6103.eq_1 Tryz.results103)
 clear hwf
 have e1 := mthere94_pure H L xs
 have hsl := sumS_le (l := xs) fun a ha => (h a ha).ok
 have hs10 : sumS xs ≤ 1040 := Nat.le_trans hsl (Nat.mul_le_mul_left 65 hl)
 have hpl := parA_len xs 0
 have hP : ∀ p ∈ parA 0 xs, SmA p.1 ∧ p.2 ≤ 1040 := fun p hp => by
  have := parA_mem hp
  exact ⟨h _ this.1, by omega⟩
 rw [← finM_all]
 simp only [argS, dMach] at e1 ⊢
 obtain ⟨P, hPP⟩ : ∃ P, P = parA 0 xs := ⟨_, rfl⟩
 rw [← hPP] at e1 hP hpl ⊢
 clear hPP hsl h
 iterate 6 ((first | refine DW_seq fun K hK => ?_ | (refine DW_r anRS6103 Tryz.mixed (by kernel_rfl) ?_; simp [anRS6103, hnt]; try simp (disch := omega) only [wrap64_in]) | refine DW_block ?_ | (refine DW_if ?_ ?_ ?_; (· (simp [hnt]; done)); (try (rotate_left; (· (intro hc; (try simp [hnt] at hc); done))))) | (refine DW_ret ?_; simp [Tryz.results103, hnt]) | ((first | refine DW_exit ?_ | refine DW_skip ?_); simp [hnt]) | (intro hc; (try simp [hnt] at hc); (try (exfalso; omega))) | (refine ⟨?_, ?_⟩; · omega) | omega | apply_assumption -exfalso -symm | (exfalso; omega)))
 refine DW_adoptS 5 50 3 1 8 (by simp [hnt, Tryz.results103, anRS6103]) (fun n => ?_)
 (refine go1 (aj1 e1) aj0 aj0 ?_; intros; refine mk_i ?_)
 refine DW_loop (X := {i : Nat // i ≤ P.length}) (fun i => ⟨[(1, .fn (.func 104) [] []), (5, .osl 50 1), (13, dPts P), (14, .int .i64 P.length), (15, .int .i64 i.1)], [⟨50, 1, .row 3 1 8 ((finM (P.take i.1)).map dNum)⟩]⟩) (fun i => P.length - i.1) ⟨0, by simp⟩ (Sub.lit (by simp [finM])) ?_
 rintro ⟨i, hi⟩
 simp only
 by_cases hlt : i < P.length
 ·obtain ⟨p, hp, hp', hpm⟩ := at_lt' hlt
  obtain ⟨k1, k2⟩ := hP p hpm
  obtain ⟨a, f⟩ := p
  have e2 := ends104_pure a f k1 k2
  have hnx := congrArg (List.map dNum) (finM_next hp)
  rw [List.map_append] at hnx
  have har : a.fin.length ≤ 65 := k1.fi
  have hml : (movF f a.fin).length = a.fin.length := by unfold movF; rw [List.length_map]
  have htl := finM_len (P := P.take i) fun x hx => (hP x (List.mem_of_mem_take hx)).1
  have h16 : (P.take i).length ≤ 16 := by rw [List.length_take]; omega
  have htl' : (finM (P.take i)).length ≤ 1040 := Nat.le_trans htl (Nat.mul_le_mul_left 65 h16)
  clear htl
  obtain ⟨T, hT⟩ : ∃ T, T = finM (P.take i) := ⟨_, rfl⟩
  rw [← hT] at hnx htl' ⊢
  obtain ⟨V, hV⟩ : ∃ V, V = movF f a.fin := ⟨_, rfl⟩
  simp only at hnx
  rw [← hV] at e2 hnx hml
  have hb : (T.length + V.length) * 8 ≤ 150000000000000 := by omega
  have hwi : IntKind.i64.wrap ((i : Int) + 1) = (i : Int) + 1 := wrap64_in (by omega) (by omega)
  simp only [dPt] at e2
  clear hP k1 k2 hpl hT hV
  (repeat (first | refine DW_seq fun K hK => ?_ | (refine DW_r anRS6103 Tryz.mixed (by kernel_rfl) ?_; simp [anRS6103, hnt, dPt, hlt, hp, hp', hb, hwi]; try simp (disch := omega) only [wrap64_in]) | refine DW_block ?_ | (refine DW_if ?_ ?_ ?_; (· (simp [hnt, dPt, hlt, hp, hp', hb, hwi]; done)); (try (rotate_left; (· (intro hc; (try simp [hnt, dPt, hlt, hp, hp', hb, hwi] at hc); done))))) | (refine DW_ret ?_; simp [Tryz.results103, hnt, dPt, hlt, hp, hp', hb, hwi]) | ((first | refine DW_exit ?_ | refine DW_skip ?_); simp [hnt, dPt, hlt, hp, hp', hb, hwi]) | (intro hc; (try simp [hnt, dPt, hlt, hp, hp', hb, hwi] at hc); (try (exfalso; omega))) | ((first | refine callP_mk (e2) ?_ | (refine callP_wk (e2) ?_ ?_; (· (simp; done)))); try simp [hnt, dPt, hlt, hp, hp', hb, hwi]) | (refine ⟨?_, ?_⟩; · omega) | omega | apply_assumption -exfalso -symm | (exfalso; omega)))
  refine Again.mk ⟨i + 1, by omega⟩ (Sub.lit (by simp [hnx])) (by simp; omega)
  skip
 ·have hkk : i = P.length := by omega
  subst hkk
  rw [List.take_length]
  exact go0 aj0 aj0 aj0
def anRS643 : Ann := ⟨[], []⟩
theorem mfinals43_pure (H L : List ByteArray) (xs : List Auto) (h : ∀ a ∈ xs, SmA a) (hl : xs.length ≤ 16) : DPure Tryz.prog 43 [dMach H L xs] (dNums (finA xs)) := by
 refine DPure_introF [] (fn := Tryz.f43) Tryz.func43 rfl Tryz.call43 (by simp [Tryz.ntmps43]) (by simp [mx]) ?_
 intro hwf B hnt
 simp only [Tryz.ntmps43] at hnt
 have hA := an_is anRS643 Tryz.mixed (aj2 @anRS643.eq_1 Tryz.results43)
 clear hwf
 have e1 := eachF_pure H L xs h hl
 simp only [argS, dMach] at e1 ⊢
 exact go0 (aj1 e1) aj0 aj0
def anRS645 : Ann := ⟨[], []⟩
theorem marcs45_pure (H L : List ByteArray) (xs : List Auto) (h : ∀ a ∈ xs, SmA a) (hl : xs.length ≤ 16) : DPure Tryz.prog 45 [dMach H L xs] (dArcs (arcA xs)) := by
 refine DPure_introF [] (fn := Tryz.f45) Tryz.func45 rfl Tryz.call45 (by simp [Tryz.ntmps45]) (by simp [mx]) ?_
 intro hwf B hnt
 simp only [Tryz.ntmps45] at hnt
 have hA := an_is anRS645 Tryz.mixed (aj2 @anRS645.eq_1 Tryz.results45)
 clear hwf
 have e1 := eachA_pure H L xs h hl
 simp only [argS, dMach] at e1 ⊢
 exact go0 (aj1 e1) aj0 aj0
end Go.Proofs.YtdgocjbakjamaaaGreat
end

section
namespace Go.Proofs.YtdgocjbakjamaaaGreat
open Go Go.Dm
attribute [local irreducible] DW callP callS
set_option maxRecDepth 100000
theorem g_may (g : List Rul) (hs : SmlG g) : ∃ c : Int, DPure Tryz.prog 63 [dRuls g] (.int .i64 c) ∧ DPure Tryz.prog 48 [dRuls g] (.int .i64 c) ∧ (c = 0 → ∃ gt, g = mkG gt ∧ OkgT gt) := by
 by_cases h : g.length < 1 ∨ 64 < g.length
 ·exact ⟨180, check63_count g h, rcheck48_count g h, by omega⟩
 ·cases ht : treesB g with
  | false => exact ⟨170, check63_bad g (by omega) (by omega) hs ht, rcheck48_bad g (by omega) (by omega) hs ht, by omega⟩
  | true =>
   obtain ⟨gt, rfl, hk⟩ := trees_gt ht
   have hl := mkG_len gt
   exact ⟨codeT gt, check63_gt gt (by omega) (by omega) hk hs, rcheck48_gt gt (by omega) (by omega) hk hs, fun h0 => ⟨gt, rfl, okgT_of hk (by omega) (by omega) h0⟩⟩
def anRS727 : Ann := ⟨[], []⟩
theorem machine27_err (g : List Rul) (c : Int) (hs : SmlG g) (hl : g.length * 40 ≤ 140737488355328) (hc : c ≠ 0) (h1 : DPure Tryz.prog 63 [dRuls g] (.int .i64 c)) (h2 : DPure Tryz.prog 48 [dRuls g] (.int .i64 c)) : DPure Tryz.prog 27 [dRuls g] (.tup [.nilp, .bool true]) := by
 refine DPure_introF [] (fn := Tryz.f27) Tryz.func27 rfl Tryz.call27 (by simp [Tryz.ntmps27]) (by simp [mx]) ?_
 intro hwf B hnt
 simp only [Tryz.ntmps27] at hnt
 have hA := an_is anRS727 Tryz.mixed (aj2 @anRS727.eq_1 Tryz.results27)
 clear hwf
 simp only [argS]
 have e1 := rcopy46_pure g hs hl
 have e2 := new47_err g c hc h1
 have hcb : (c == 0) = false := by simpa using hc
 exact go0 (aj3 e1 e2 h2) aj0 (aj2 hc hcb)
theorem machine27_pure (gt : GT) (h : OkgT gt) (hs : SmlG (mkG gt)) (h1 : DPure Tryz.prog 63 [dRuls (mkG gt)] (.int .i64 0)) (h2 : DPure Tryz.prog 48 [dRuls (mkG gt)] (.int .i64 0)) : DPure Tryz.prog 27 [dRuls (mkG gt)] (.tup [dMach (headsL (mkG gt)) (labelsL' (mkG gt)) (autL gt), .bool true]) := by
 refine DPure_introF [] (fn := Tryz.f27) Tryz.func27 rfl Tryz.call27 (by simp [Tryz.ntmps27]) (by simp [mx, dMach, mxL]) ?_
 intro hwf B hnt
 simp only [Tryz.ntmps27] at hnt
 have hA := an_is anRS727 Tryz.mixed (aj2 @anRS727.eq_1 Tryz.results27)
 clear hwf
 simp only [argS]
 have hgl := mkG_len gt
 have hle := h.le
 have e1 := rcopy46_pure (mkG gt) hs (by omega)
 have e2 := new47_pure gt h hs h1
 unfold dMach at e2 ⊢
 exact go0 (aj3 e1 e2 h2) aj0 aj0
end Go.Proofs.YtdgocjbakjamaaaGreat
end

section
namespace Go.Proofs.YtdgocjbakjamaaaGreat
open Go Go.Dm
attribute [local irreducible] DW callP callS
set_option maxRecDepth 100000
def placeI (l : List Int) (s : Int) : Int := if l.any (fun x => s == x) then ((l.findIdx fun x => s == x : Nat) : Int) else -1
theorem placeI_some {l : List Int} {s : Int} {k : Nat} (hk : k < l.length) (h : l[k] = s) (hno : ∀ i x, i < k → l[i]? = some x → (s == x) = false) : placeI l s = k := by
 unfold placeI
 have hb : (s == l[k]) = true := by rw [h]; exact beq_self_eq_true _
 rw [if_pos (List.any_eq_true.2 ⟨l[k], List.getElem_mem _, hb⟩)]
 congr 1
 rw [List.findIdx_eq hk]
 exact ⟨hb, fun i hi => hno i _ hi (List.getElem?_eq_getElem (by omega))⟩
theorem placeI_none {l : List Int} {s : Int} (hno : ∀ i x, i < l.length → l[i]? = some x → (s == x) = false) : placeI l s = -1 := by
 unfold placeI
 rw [if_neg]
 simp only [Bool.not_eq_true, List.any_eq_false]
 intro x hx
 obtain ⟨i, hi, rfl⟩ := List.getElem_of_mem hx
 rw [hno i _ hi (List.getElem?_eq_getElem hi)]
theorem placeI_dec (l : List Int) (s : Int) : decide (0 ≤ placeI l s) = decide (s ∈ l) := by
 unfold placeI
 by_cases h : s ∈ l
 ·have : l.any (fun x => s == x) = true := List.any_eq_true.2 ⟨s, h, by simp⟩
  rw [if_pos this]
  simp [h]
 ·have : l.any (fun x => s == x) = false := by
   rw [List.any_eq_false]
   intro x hx hh
   simp only [beq_iff_eq] at hh
   subst hh
   exact h hx
  rw [this]
  simp [h]
theorem hno_nextI {l : List Int} {s x : Int} {k : Nat} (hx : l[k]? = some x) (hb : (s == x) = false) (hno : ∀ i x, i < k → l[i]? = some x → (s == x) = false) : ∀ i x, i < k + 1 → l[i]? = some x → (s == x) = false := by
 intro i y hi hy
 by_cases hik : i = k
 ·subst hik; rw [hx] at hy; simp only [Option.some.injEq] at hy; subst hy; exact hb
 ·exact hno i y (by omega) hy
def anRS8157 : Ann := ⟨[], []⟩
theorem index157_pure (l : List Int) (s : Int) : DPure Tryz.prog 157 [dNums l, .int .i64 s] (.int .i64 (placeI l s)) := by
 refine DPure_introF [] (fn := Tryz.f157) Tryz.func157 rfl Tryz.call157 (by simp [Tryz.ntmps157]) (by simp [mx]) ?_
 intro hwf B hnt
 simp only [Tryz.ntmps157] at hnt
 have hA := an_is anRS8157 Tryz.mixed (aj2 @anRS8157.eq_1 Tryz.results157)
 have hlen := len_nums hwf.1
 clear hwf
 simp only [argS]
 obtain ⟨R, hR⟩ : ∃ R, R = placeI l s := ⟨_, rfl⟩
 rw [← hR]
 (refine go1 aj0 aj0 aj0 ?_; intros; refine mk_i ?_)
 refine DW_loop (X := {k : Nat // k ≤ l.length ∧ ∀ i x, i < k → l[i]? = some x → (s == x) = false}) (fun x => ⟨[(0, dNums l), (1, .int .i64 s), (7, .int .i64 l.length), (8, .int .i64 x.1)], []⟩) (fun x => l.length - x.1) ⟨0, by simp⟩ (Sub.lit (by simp)) ?_
 rintro ⟨k, hk, hno⟩
 by_cases hlt : k < l.length
 ·obtain ⟨x, hx, hx', hxm⟩ := at_lt' hlt
  cases hb : s == x
  ·(refine go1 aj0 aj0 (aj5 @dNum.eq_1 hlt hx' hx hb) ?_; intros; refine mk_i ?_)
   exact Again.mk ⟨k + 1, by omega, hno_nextI hx hb hno⟩ (Sub.lit (by simp [])) (by simp; omega)
   skip
  ·have hRk : R = k := by rw [hR]; exact placeI_some hlt (by rw [hx']; exact (by simpa using hb : s = x).symm) hno
   subst hRk
   exact go0 aj0 aj0 (aj5 @dNum.eq_1 hlt hx' hx hb)
 ·have hkk : k = l.length := by omega
  subst hkk
  have hRk : R = -1 := by rw [hR]; exact placeI_none hno
  subst hRk
  exact go0 aj0 aj0 aj0
def anRS899 : Ann := ⟨[], []⟩
theorem contains99_pure (l : List Int) (s : Int) : DPure Tryz.prog 99 [dNums l, .int .i64 s] (.bool (decide (s ∈ l))) := by
 rw [← placeI_dec]
 refine DPure_introF [] (fn := Tryz.f99) Tryz.func99 rfl Tryz.call99 (by simp [Tryz.ntmps99]) (by simp [mx]) ?_
 intro hwf B hnt
 simp only [Tryz.ntmps99] at hnt
 have hA := an_is anRS899 Tryz.mixed (aj2 @anRS899.eq_1 Tryz.results99)
 simp only [argS]
 exact go0 (aj1 (index157_pure l s)) aj0 aj0
def anRS835 : Ann := ⟨[], []⟩
theorem rin35_pure (l : List Int) (s : Int) : DPure Tryz.prog 35 [dNums l, .int .i64 s] (.bool (decide (s ∈ l))) := by
 refine DPure_introF [] (fn := Tryz.f35) Tryz.func35 rfl Tryz.call35 (by simp [Tryz.ntmps35]) (by simp [mx]) ?_
 intro hwf B hnt
 simp only [Tryz.ntmps35] at hnt
 have hA := an_is anRS835 Tryz.mixed (aj2 @anRS835.eq_1 Tryz.results35)
 have hlen := len_nums hwf.1
 clear hwf
 simp only [argS]
 (refine go1 aj0 aj0 aj0 ?_; intros; refine mk_i ?_)
 refine DW_loop (X := {k : Nat // k ≤ l.length ∧ ∀ i x, i < k → l[i]? = some x → (s == x) = false}) (fun x => ⟨[(0, dNums l), (1, .int .i64 s), (5, .int .i64 x.1)], []⟩) (fun x => l.length - x.1) ⟨0, by simp⟩ (Sub.lit (by simp)) ?_
 rintro ⟨k, hk, hno⟩
 by_cases hlt : k < l.length
 ·obtain ⟨x, hx, hx', hxm⟩ := at_lt' hlt
  cases hb : s == x
  ·have hb2 : (x == s) = false := by
    have hh : ¬ s = x := by simpa using hb
    simpa using fun e : x = s => hh e.symm
   have hb3 : ¬ x = s := by simpa using hb2
   have hwk : IntKind.i64.wrap ((k : Int) + 1) = (k : Int) + 1 := wrap64_in (by omega) (by omega)
   (refine go1 aj0 aj0 (aj7 @dNum.eq_1 hlt hx' hx hb2 hb3 hwk) ?_; intros; refine mk_i ?_)
   refine Again.mk ⟨k + 1, by omega, hno_nextI hx hb hno⟩ (Sub.lit (by simp [])) (by simp; omega)
   skip
  ·have he : s = x := by simpa using hb
   subst he
   have hm : decide (s ∈ l) = true := by simpa using hxm
   exact go0 aj0 aj0 (aj5 @dNum.eq_1 hlt hx' hx hm)
 ·have hkk : k = l.length := by omega
  subst hkk
  have hm : decide (s ∈ l) = false := by
   simp only [decide_eq_false_iff_not]
   intro hh
   obtain ⟨i, hi, rfl⟩ := List.getElem_of_mem hh
   have := hno i _ hi (List.getElem?_eq_getElem hi)
   simp at this
  exact go0 aj0 aj0 (aj1 hm)
def atI (l : List Nat) (n : Int) : Int := if 0 ≤ n ∧ n < l.length then (l.getD n.toNat 0 : Int) else -1
theorem atI_in {l : List Nat} {k x : Nat} (h : l[k]? = some x) : atI l k = x := by
 have hk := (List.getElem?_eq_some_iff.1 h).1
 unfold atI
 rw [if_pos ⟨by omega, by omega⟩, Int.toNat_natCast, List.getD_eq_getElem?_getD, h]
 rfl
theorem atI_out {l : List Nat} {n : Int} (h : ¬ (0 ≤ n ∧ n < l.length)) : atI l n = -1 := by unfold atI; rw [if_neg h]
def anRS832 : Ann := ⟨[], []⟩
theorem at32_pure (l : List Nat) (n : Int) : DPure Tryz.prog 32 [dNats l, .int .i64 n] (.int .i64 (atI l n)) := by
 refine DPure_introF [] (fn := Tryz.f32) Tryz.func32 rfl Tryz.call32 (by simp [Tryz.ntmps32]) (by simp [mx]) ?_
 intro hwf B hnt
 simp only [Tryz.ntmps32] at hnt
 have hA := an_is anRS832 Tryz.mixed (aj2 @anRS832.eq_1 Tryz.results32)
 clear hwf
 simp only [argS]
 by_cases h0 : n < 0
 ·rw [atI_out (by omega)]
  exact go0 aj0 aj0 (aj1 h0)
 ·by_cases h1 : n < l.length
  ·obtain ⟨k, rfl⟩ : ∃ k : Nat, n = (k : Int) := ⟨n.toNat, by omega⟩
   have hlt : k < l.length := by omega
   obtain ⟨x, hx, hx', hxm⟩ := at_lt' hlt
   rw [atI_in hx]
   have h2 : ¬ (l.length : Int) ≤ (k : Int) := by omega
   exact go0 aj0 aj0 (aj7 @natD.eq_1 h0 h1 h2 hlt hx hx')
  ·rw [atI_out (by omega)]
   have h2 : (l.length : Int) ≤ n := by omega
   exact go0 aj0 aj0 (aj3 h0 h1 h2)
def anRS831 : Ann := ⟨[], []⟩
theorem start31_pure (H L : List ByteArray) (xs : List Auto) (n : Int) : DPure Tryz.prog 31 [dMach H L xs, .int .i64 n] (.int .i64 (atI (stL xs) n)) := by
 refine DPure_introF [] (fn := Tryz.f31) Tryz.func31 rfl Tryz.call31 (by simp [Tryz.ntmps31]) (by simp [mx]) ?_
 intro hwf B hnt
 simp only [Tryz.ntmps31] at hnt
 have hA := an_is anRS831 Tryz.mixed (aj2 @anRS831.eq_1 Tryz.results31)
 clear hwf
 have e1 := mthere94_pure H L xs
 simp only [argS, dMach] at e1 ⊢
 have hl : (stL xs).length = (parA 0 xs).length := by rw [stL_len, parA_len]
 have hst : ∀ (k : Nat) (p : Auto × Nat), (parA 0 xs)[k]? = some p → (stL xs)[k]? = some p.2 := fun k p h => by unfold stL; rw [List.getElem?_map, h]; rfl
 obtain ⟨S, hS⟩ : ∃ S, S = stL xs := ⟨_, rfl⟩
 rw [← hS] at hl hst ⊢
 obtain ⟨P, hP⟩ : ∃ P, P = parA 0 xs := ⟨_, rfl⟩
 rw [← hP] at e1 hl hst ⊢
 clear hS hP
 by_cases h0 : n < 0
 ·rw [atI_out (by omega)]
  exact go0 (aj1 e1) aj0 (aj1 h0)
 ·by_cases h1 : n < P.length
  ·obtain ⟨k, rfl⟩ : ∃ k : Nat, n = (k : Int) := ⟨n.toNat, by omega⟩
   have hlt : k < P.length := by omega
   obtain ⟨p, hx, hx', hxm⟩ := at_lt' hlt
   rw [atI_in (hst k p hx)]
   have h2 : ¬ (P.length : Int) ≤ (k : Int) := by omega
   (repeat (first | refine DW_seq fun K hK => ?_ | (refine DW_r anRS831 Tryz.mixed (by kernel_rfl) ?_; simp [anRS831, hnt, dPt, h0, h1, h2, hlt, hx, hx']; try simp (disch := omega) only [wrap64_in]) | refine DW_block ?_ | (refine DW_if ?_ ?_ ?_; (· (simp [hnt, dPt, h0, h1, h2, hlt, hx, hx']; done)); (try (rotate_left; (· (intro hc; (try simp [hnt, dPt, h0, h1, h2, hlt, hx, hx'] at hc); done))))) | (refine DW_ret ?_; simp [Tryz.results31, hnt, dPt, h0, h1, h2, hlt, hx, hx']) | ((first | refine DW_exit ?_ | refine DW_skip ?_); simp [hnt, dPt, h0, h1, h2, hlt, hx, hx']) | (intro hc; (try simp [hnt, dPt, h0, h1, h2, hlt, hx, hx'] at hc); (try (exfalso; omega))) | ((first | refine callP_mk (e1) ?_ | (refine callP_wk (e1) ?_ ?_; (· (simp; done)))); try simp [hnt, dPt, h0, h1, h2, hlt, hx, hx']) | (refine ⟨?_, ?_⟩; · omega) | omega | apply_assumption -exfalso -symm | (exfalso; omega)))
  ·rw [atI_out (by omega)]
   have h2 : (P.length : Int) ≤ n := by omega
   exact go0 (aj1 e1) aj0 (aj3 h0 h1 h2)
def anRS898 : Ann := ⟨[], []⟩
theorem ntF98_pure (n : Int) (p : Auto × Nat) (h : SmA p.1) (hf : p.2 ≤ 1040) : DPure Tryz.prog 98 [.agg (dPt p), .ref [.int .i64 n]] (.bool (decide (n < (p.2 : Int) + p.1.st))) := by
 refine DPure_introF [] (fn := Tryz.f98) Tryz.func98 rfl Tryz.call98 (by simp [Tryz.ntmps98]) (by simp [mx]) ?_
 intro hwf B hnt
 simp only [Tryz.ntmps98] at hnt
 have hA := an_is anRS898 Tryz.mixed (aj2 @anRS898.eq_1 Tryz.results98)
 clear hwf
 have hst := ok_st h.ok
 have hw : IntKind.i64.wrap ((p.2 : Int) + p.1.st) = (p.2 : Int) + p.1.st := wrap64_in (by omega) (by omega)
 simp only [argS]
 (repeat (first | refine DW_seq fun K hK => ?_ | (refine DW_r anRS898 Tryz.mixed (by kernel_rfl) ?_; simp [anRS898, hnt, dPt, hw]; try simp (disch := omega) only [wrap64_in]) | refine DW_block ?_ | (refine DW_if ?_ ?_ ?_; (· (simp [hnt, dPt, hw]; done)); (try (rotate_left; (· (intro hc; (try simp [hnt, dPt, hw] at hc); done))))) | (refine DW_ret ?_; simp [Tryz.results98, hnt, dPt, hw]) | ((first | refine DW_exit ?_ | refine DW_skip ?_); simp [hnt, dPt, hw]) | (intro hc; (try simp [hnt, dPt, hw] at hc); (try (exfalso; omega))) | (refine ⟨?_, ?_⟩; · omega) | omega | apply_assumption -exfalso -symm | (exfalso; omega)))
def ntQ (n : Int) (p : Auto × Nat) : Bool := decide (n < (p.2 : Int) + p.1.st)
def anRS897 : Ann := ⟨[], []⟩
theorem ntI97_pure (n : Int) (P : List (Auto × Nat)) (hP : ∀ p ∈ P, SmA p.1 ∧ p.2 ≤ 1040) (hl : P.length ≤ 16) : DPure Tryz.prog 97 [dPts P, .fn (.func 98) [] [.ref [.int .i64 n]]] (.int .i64 (if P.any (ntQ n) then ((P.findIdx (ntQ n) : Nat) : Int) else -1)) := by
 refine DPure_introF [] (fn := Tryz.f97) Tryz.func97 rfl Tryz.call97 (by simp [Tryz.ntmps97]) (by simp [mx]) ?_
 intro hwf B hnt
 simp only [Tryz.ntmps97] at hnt
 have hA := an_is anRS897 Tryz.mixed (aj2 @anRS897.eq_1 Tryz.results97)
 clear hwf
 simp only [argS]
 (refine go1 aj0 aj0 aj0 ?_; intros; refine mk_i ?_)
 refine DW_loop (X := {k : Nat // k ≤ P.length ∧ ∀ i x, i < k → P[i]? = some x → ntQ n x = false}) (fun x => ⟨[(0, dPts P), (1, .fn (.func 98) [] [.ref [.int .i64 n]]), (7, .int .i64 P.length), (8, .int .i64 x.1)], []⟩) (fun x => P.length - x.1) ⟨0, by simp⟩ (Sub.lit (by simp)) ?_
 rintro ⟨k, hk, hno⟩
 by_cases hlt : k < P.length
 ·obtain ⟨x, hx, hx', hxm⟩ := at_lt' hlt
  have hqx : DPure Tryz.prog 98 [.agg (dPt x), .ref [.int .i64 n]] (.bool (ntQ n x)) := ntF98_pure n x (hP x hxm).1 (hP x hxm).2
  simp only [dPt] at hqx
  clear hP
  cases hb : ntQ n x
  ·rw [hb] at hqx
   have hno' : ∀ i y, i < k + 1 → P[i]? = some y → ntQ n y = false := by
    intro i y hi hy
    by_cases hik : i = k
    ·subst hik; rw [hx] at hy; simp only [Option.some.injEq] at hy; subst hy; exact hb
    ·exact hno i y (by omega) hy
   (repeat (first | refine DW_seq fun K hK => ?_ | (refine DW_r anRS897 Tryz.mixed (by kernel_rfl) ?_; simp [anRS897, hnt, dPt, hlt, hx']; try simp (disch := omega) only [wrap64_in]) | refine DW_block ?_ | (refine DW_if ?_ ?_ ?_; (· (simp [hnt, dPt, hlt, hx']; done)); (try (rotate_left; (· (intro hc; (try simp [hnt, dPt, hlt, hx'] at hc); done))))) | (refine DW_ret ?_; simp [Tryz.results97, hnt, dPt, hlt, hx']) | ((first | refine DW_exit ?_ | refine DW_skip ?_); simp [hnt, dPt, hlt, hx']) | (intro hc; (try simp [hnt, dPt, hlt, hx'] at hc); (try (exfalso; omega))) | ((first | refine callP_mk (hqx) ?_ | (refine callP_wk (hqx) ?_ ?_; (· (simp; done)))); try simp [hnt, dPt, hlt, hx']) | (refine ⟨?_, ?_⟩; · omega) | omega | apply_assumption -exfalso -symm | (exfalso; omega)))
   exact Again.mk ⟨k + 1, by omega, hno'⟩ (Sub.lit (by simp [])) (by simp; omega)
   skip
  ·rw [hb] at hqx
   have hany : P.any (ntQ n) = true := List.any_eq_true.2 ⟨x, hxm, hb⟩
   have hidx : P.findIdx (ntQ n) = k := by
    rw [List.findIdx_eq hlt]
    refine ⟨by rw [hx']; exact hb, fun i hi => ?_⟩
    exact hno i _ hi (List.getElem?_eq_getElem (by omega))
   (repeat (first | refine DW_seq fun K hK => ?_ | (refine DW_r anRS897 Tryz.mixed (by kernel_rfl) ?_; simp [anRS897, hnt, dPt, hlt, hx', hany, hidx]; try simp (disch := omega) only [wrap64_in]) | refine DW_block ?_ | (refine DW_if ?_ ?_ ?_; (· (simp [hnt, dPt, hlt, hx', hany, hidx]; done)); (try (rotate_left; (· (intro hc; (try simp [hnt, dPt, hlt, hx', hany, hidx] at hc); done))))) | (refine DW_ret ?_; simp [Tryz.results97, hnt, dPt, hlt, hx', hany, hidx]) | ((first | refine DW_exit ?_ | refine DW_skip ?_); simp [hnt, dPt, hlt, hx', hany, hidx]) | (intro hc; (try simp [hnt, dPt, hlt, hx', hany, hidx] at hc); (try (exfalso; omega))) | ((first | refine callP_mk (hqx) ?_ | (refine callP_wk (hqx) ?_ ?_; (· (simp; done)))); try simp [hnt, dPt, hlt, hx', hany, hidx]) | (refine ⟨?_, ?_⟩; · omega) | omega | apply_assumption -exfalso -symm | (exfalso; omega)))
 ·have hkk : k = P.length := by omega
  have hany : P.any (ntQ n) = false := by
   rw [List.any_eq_false]
   intro x hx
   obtain ⟨i, hi, rfl⟩ := List.getElem_of_mem hx
   rw [hno i _ (by omega) (List.getElem?_eq_getElem hi)]
   simp
  (repeat (first | refine DW_seq fun K hK => ?_ | (refine DW_r anRS897 Tryz.mixed (by kernel_rfl) ?_; simp [anRS897, hnt, hkk, hany]; try simp (disch := omega) only [wrap64_in]) | refine DW_block ?_ | (refine DW_if ?_ ?_ ?_; (· (simp [hnt, hkk, hany]; done)); (try (rotate_left; (· (intro hc; (try simp [hnt, hkk, hany] at hc); done))))) | (refine DW_ret ?_; simp [Tryz.results97, hnt, hkk, hany]) | ((first | refine DW_exit ?_ | refine DW_skip ?_); simp [hnt, hkk, hany]) | (intro hc; (try simp [hnt, hkk, hany] at hc); (try (exfalso; omega))) | ((first | refine callP_mk (hqx) ?_ | (refine callP_wk (hqx) ?_ ?_; (· (simp; done)))); try simp [hnt, hkk, hany]) | (refine ⟨?_, ?_⟩; · omega) | omega | apply_assumption -exfalso -symm | (exfalso; omega)))
theorem nt_law : ∀ (xs : List Auto) (f b n : Nat), (∀ a ∈ xs, 1 ≤ a.st) → f ≤ n → n < f + sumS xs → ∃ k, ((xs.zipIdx b).flatMap fun p => List.replicate p.1.st.toNat p.2)[n - f]? = some (b + k) ∧ (parA f xs).findIdx (ntQ n) = k ∧ (parA f xs).any (ntQ n) = true
 | [], f, b, n, _, h1, h2 => by simp [sumS] at h2; omega
 | a :: xs, f, b, n, hst, h1, h2 => by
  have h3 : sumS (a :: xs) = a.st.toNat + sumS xs := by simp [sumS]
  have h4 := hst a List.mem_cons_self
  rw [parA, List.zipIdx_cons, List.flatMap_cons]
  simp only
  by_cases hn : n < f + a.st.toNat
  ·have hq : ntQ n (a, f) = true := by unfold ntQ; simp only [decide_eq_true_eq]; omega
   refine ⟨0, ?_, by rw [List.findIdx_cons, hq]; rfl, by rw [List.any_cons, hq]; rfl⟩
   rw [List.getElem?_append_left (by rw [List.length_replicate]; omega), List.getElem?_replicate, if_pos (by omega)]
   rfl
  ·have hq : ntQ n (a, f) = false := by unfold ntQ; simp only [decide_eq_false_iff_not]; omega
   obtain ⟨k, k1, k2, k3⟩ := nt_law xs (f + a.st.toNat) (b + 1) n (fun x hx => hst x (List.mem_cons_of_mem _ hx)) (by omega) (by omega)
   refine ⟨k + 1, ?_, by rw [List.findIdx_cons, hq, k2]; rfl, by rw [List.any_cons, hq, k3]; rfl⟩
   rw [List.getElem?_append_right (by rw [List.length_replicate]; omega), List.length_replicate, Nat.sub_sub, k1]
   congr 1
   omega
def anRS833 : Ann := ⟨[], []⟩
theorem nt33_pure (H L : List ByteArray) (xs : List Auto) (h : ∀ a ∈ xs, SmA a) (hl : xs.length ≤ 16) (n : Int) : DPure Tryz.prog 33 [dMach H L xs, .int .i64 n] (.int .i64 (atI (ntL xs) n)) := by
 refine DPure_introF [] (fn := Tryz.f33) Tryz.func33 rfl Tryz.call33 (by simp [Tryz.ntmps33]) (by simp [mx]) ?_
 intro hwf B hnt
 simp only [Tryz.ntmps33] at hnt
 have hA := an_is anRS833 Tryz.mixed (aj2 @anRS833.eq_1 Tryz.results33)
 clear hwf
 have e1 := mthere94_pure H L xs
 have hsl := sumS_le (l := xs) fun a ha => (h a ha).ok
 have hs10 : sumS xs ≤ 1040 := Nat.le_trans hsl (Nat.mul_le_mul_left 65 hl)
 have hpl := parA_len xs 0
 have e2 := ntI97_pure n (parA 0 xs) (fun p hp => by have := parA_mem hp; exact ⟨h _ this.1, by omega⟩) (by omega)
 have hnl := ntL_len xs
 have hlaw : ∀ k : Nat, k < sumS xs → (parA 0 xs).any (ntQ k) = true ∧ (ntL xs)[k]? = some ((parA 0 xs).findIdx (ntQ k)) := fun k hk => by
  obtain ⟨j, j1, j2, j3⟩ := nt_law xs 0 0 k (fun a ha => (ok_st (h a ha).ok).1) (by omega) (by omega)
  refine ⟨j3, ?_⟩
  unfold ntL
  rw [j2]
  simpa using j1
 simp only [argS, dMach] at e1 ⊢
 obtain ⟨N, hN⟩ : ∃ N, N = ntL xs := ⟨_, rfl⟩
 rw [← hN] at hnl hlaw ⊢
 obtain ⟨S, hS⟩ : ∃ S, S = sumS xs := ⟨_, rfl⟩
 rw [← hS] at e1 hnl hlaw hs10 ⊢
 obtain ⟨P, hP⟩ : ∃ P, P = parA 0 xs := ⟨_, rfl⟩
 rw [← hP] at e1 e2 hlaw ⊢
 clear hN hS hP hsl h
 by_cases h0 : n < 0
 ·rw [atI_out (by omega)]
  exact go0 (aj1 e1) aj0 (aj1 h0)
 ·by_cases h1 : n < S
  ·obtain ⟨k, rfl⟩ : ∃ k : Nat, n = (k : Int) := ⟨n.toNat, by omega⟩
   obtain ⟨l1, l2⟩ := hlaw k (by omega)
   rw [atI_in l2]
   rw [if_pos l1] at e2
   have h2 : ¬ (S : Int) ≤ (k : Int) := by omega
   exact go0 (aj2 e1 e2) aj0 (aj3 h0 h1 h2)
  ·rw [atI_out (by omega)]
   have h2 : (S : Int) ≤ n := by omega
   exact go0 (aj1 e1) aj0 (aj3 h0 h1 h2)
def anRS834 : Ann := ⟨[], []⟩
theorem final34_pure (H L : List ByteArray) (xs : List Auto) (h : ∀ a ∈ xs, SmA a) (hl : xs.length ≤ 16) (n : Int) : DPure Tryz.prog 34 [dMach H L xs, .int .i64 n] (.bool (decide (n ∈ finA xs))) := by
 refine DPure_introF [] (fn := Tryz.f34) Tryz.func34 rfl Tryz.call34 (by simp [Tryz.ntmps34]) (by simp [mx]) ?_
 intro hwf B hnt
 simp only [Tryz.ntmps34] at hnt
 have hA := an_is anRS834 Tryz.mixed (aj2 @anRS834.eq_1 Tryz.results34)
 clear hwf
 have e1 := mfinals43_pure H L xs h hl
 have e2 := contains99_pure (finA xs) n
 simp only [argS, dMach] at e1 ⊢
 exact go0 (aj2 e1 e2) aj0 aj0
end Go.Proofs.YtdgocjbakjamaaaGreat
end

