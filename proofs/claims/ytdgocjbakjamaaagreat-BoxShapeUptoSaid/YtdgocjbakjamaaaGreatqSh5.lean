/- Parts of a proof, laid together: WC1, WC2, BX0, BX1, BX4, BY2, BX6, BX2, BY3, EnAn, BY4, WA, WB2, WB1, WR1, RN, RH, RG, RX1. -/
import Derived.Test.YtdgocjbakjamaaaGreatqSh4
section
set_option linter.unusedSectionVars false
/- cmp.Or at three integers; lists without repetitions -/


set_option linter.unusedSimpArgs false
set_option linter.unusedVariables false
namespace Go.Proofs.YtdgocjbakjamaaaGreat
open Go Go.Dm
variable [DMode]
attribute [local irreducible] DW callP callS
set_option maxRecDepth 100000

def anWC1141 : Ann := ⟨[], []⟩
theorem or3_pure (a b c : Int) : DPure Tryz.prog 141 [.sl 1 8 [[.int .i64 a], [.int .i64 b], [.int .i64 c]]] (.int .i64 (if a = 0 then (if b = 0 then c else b) else a)) := by
 refine DPure_introF [] (fn := Tryz.f141) Tryz.func141 rfl Tryz.call141 (by simp [Tryz.ntmps141]) (by simp [mx]) ?_
 intro hwf B hnt
 simp only [Tryz.ntmps141] at hnt
 have hA := an_is anWC1141 Tryz.mixed (aj2 @anWC1141.eq_1 Tryz.results141)
 simp only [argS]
 (refine go1 aj0 aj0 aj0 ?_; intros; refine mk_i ?_)
 refine DW_loop (X := {k : Nat // k ≤ 3 ∧ (0 < k → a = 0) ∧ (1 < k → b = 0) ∧ (2 < k → c = 0)}) (fun k => ⟨[(3, .int .i64 0), (6, .sl 1 8 [[.int .i64 a], [.int .i64 b], [.int .i64 c]]), (7, .int .i64 3), (8, .int .i64 k.1)], []⟩) (fun k => 3 - k.1) ⟨0, by simp⟩ (Sub.lit (by simp)) ?_
 rintro ⟨k, hk, ha, hb, hc⟩
 match k, hk, ha, hb, hc with
 | 0, _, _, _, _ =>
  by_cases h : a = 0
  ·(refine go1 aj0 aj0 (aj1 h) ?_; intros; refine mk_i ?_)
   refine Again.mk ⟨1, by simp [h]⟩ (Sub.lit (by simp)) (by simp)
   skip
  ·have h' : (a != 0) = true := by simpa using h
   exact go0 aj0 aj0 (aj2 h h')
 | 1, _, ha, _, _ =>
  have ha := ha (by omega)
  by_cases h : b = 0
  ·(refine go1 aj0 aj0 (aj1 h) ?_; intros; refine mk_i ?_)
   refine Again.mk ⟨2, by simp [h, ha]⟩ (Sub.lit (by simp)) (by simp)
   skip
  ·have h' : (b != 0) = true := by simpa using h
   exact go0 aj0 aj0 (aj3 h h' ha)
 | 2, _, ha, hb, _ =>
  have ha := ha (by omega)
  have hb := hb (by omega)
  by_cases h : c = 0
  ·(refine go1 aj0 aj0 (aj1 h) ?_; intros; refine mk_i ?_)
   refine Again.mk ⟨3, by simp [h, ha, hb]⟩ (Sub.lit (by simp)) (by simp)
   skip
  ·have h' : (c != 0) = true := by simpa using h
   exact go0 aj0 aj0 (aj4 h h' ha hb)
 | 3, _, ha, hb, hc =>
  have ha := ha (by omega)
  have hb := hb (by omega)
  have hc := hc (by omega)
  exact go0 aj0 aj0 (aj3 ha hb hc)


def compGo {α : Type} (e : α → α → Bool) (p : α) : List α → List α
 | [] => []
 | y :: l => if e y p then compGo e y l else y :: compGo e y l
def compL {α : Type} (e : α → α → Bool) : List α → List α
 | [] => []
 | x :: l => x :: compGo e x l
theorem compGo_snoc {α : Type} {e : α → α → Bool} {y : α} : ∀ {l : List α} {p : α}, compGo e p (l ++ [y]) = compGo e p l ++ (if e y (l.getLast?.getD p) then [] else [y])
 | [], p => by by_cases h : e y p <;> simp [compGo, h]
 | x :: l, p => by
  have h := compGo_snoc (e := e) (y := y) (l := l) (p := x)
  have h2 : (x :: l).getLast?.getD p = l.getLast?.getD x := by
   cases l with
   | nil => rfl
   | cons z l => simp [List.getLast?_cons_cons, List.getLast?_eq_some_getLast]
  rw [h2]
  simp only [List.cons_append, compGo]
  split
  ·exact h
  ·rw [h]; rfl
theorem compL_snoc {α : Type} {e : α → α → Bool} {l : List α} {k : Nat} {x y : α} (h0 : 0 < k) (hx : l[k - 1]? = some x) (hy : l[k]? = some y) : compL e (l.take (k + 1)) = compL e (l.take k) ++ (if e y x then [] else [y]) := by
 rw [List.take_add_one, hy]
 obtain ⟨z, t, hz⟩ : ∃ z t, l.take k = z :: t := by
  cases h : l.take k with
  | nil =>
   have h1 := congrArg List.length h
   have := (List.getElem?_eq_some_iff.1 hy).1
   rw [List.length_take] at h1
   simp only [List.length_nil] at h1
   omega
  | cons z t => exact ⟨z, t, rfl⟩
 have hl : (l.take k).getLast? = some x := by
  rw [List.getLast?_eq_getElem?, List.getElem?_take]
  have := (List.getElem?_eq_some_iff.1 hy).1
  simp only [List.length_take]
  rw [show min k l.length - 1 = k - 1 by omega, if_pos (by omega)]
  exact hx
 rw [hz] at hl ⊢
 have h2 : t.getLast?.getD z = x := by
  cases t with
  | nil => simpa using hl
  | cons a t => simpa [List.getLast?_cons_cons, List.getLast?_eq_some_getLast] using hl
 simp only [Option.toList_some, List.cons_append, compL, compGo_snoc, h2]

end Go.Proofs.YtdgocjbakjamaaaGreat
end

section
set_option linter.unusedSectionVars false
/- numbers compared; orders of symbols -/


set_option linter.unusedSimpArgs false
set_option linter.unusedVariables false
namespace Go.Proofs.YtdgocjbakjamaaaGreat
open Go Go.Dm
variable [DMode]
attribute [local irreducible] DW callP callS
set_option maxRecDepth 100000

def cmpI (a b : Int) : Int := if a < b then -1 else if b < a then 1 else 0
def anWC2220 : Ann := ⟨[], []⟩
theorem isNaN_pure (n : Int) : DPure Tryz.prog 220 [.int .i64 n] (.bool false) := by
 refine DPure_introF [] (fn := Tryz.f220) Tryz.func220 rfl Tryz.call220 (by simp [Tryz.ntmps220]) (by simp [mx]) ?_
 intro hwf B hnt
 simp only [Tryz.ntmps220] at hnt
 have hA := an_is anWC2220 Tryz.mixed (aj2 @anWC2220.eq_1 Tryz.results220)
 simp only [argS]
 exact go0 aj0 aj0 aj0
def anWC2142 : Ann := ⟨[], []⟩
theorem cmpInt_pure (a b : Int) : DPure Tryz.prog 142 [.int .i64 a, .int .i64 b] (.int .i64 (cmpI a b)) := by
 refine DPure_introF [] (fn := Tryz.f142) Tryz.func142 rfl Tryz.call142 (by simp [Tryz.ntmps142]) (by simp [mx]) ?_
 intro hwf B hnt
 simp only [Tryz.ntmps142] at hnt
 have hA := an_is anWC2142 Tryz.mixed (aj2 @anWC2142.eq_1 Tryz.results142)
 simp only [argS]
 by_cases h1 : a < b
 ·exact go0 (aj2 (isNaN_pure a) (isNaN_pure b)) aj0 (aj2 h1 @cmpI.eq_1)
 ·by_cases h2 : b < a
  ·exact go0 (aj2 (isNaN_pure a) (isNaN_pure b)) aj0 (aj3 h1 h2 @cmpI.eq_1)
  ·exact go0 (aj2 (isNaN_pure a) (isNaN_pure b)) aj0 (aj3 h1 h2 @cmpI.eq_1)

def symC (x y : Sym) : Int := if x.label = y.label then cmpI x.n y.n else if x.label then 1 else -1
end Go.Proofs.YtdgocjbakjamaaaGreat
end

section
set_option linter.unusedSectionVars false
/- automata: shapes, what may be, steps -/

set_option linter.unusedSimpArgs false
set_option linter.unusedVariables false
namespace Go.Proofs.YtdgocjbakjamaaaGreat
open Go Go.Dm
variable [DMode]

structure Arc where
 fr : Int
 sy : Sym
 to : Int
 deriving DecidableEq
def dArc (x : Arc) : List DVal := [.int .i64 x.fr, .bool x.sy.label, .int .i64 x.sy.n, .int .i64 x.to]
abbrev dArcs (l : List Arc) : DVal := .sl 4 32 (l.map dArc)
def dNum (n : Int) : List DVal := [.int .i64 n]
abbrev dNums (l : List Int) : DVal := .sl 1 8 (l.map dNum)
def dBl (b : Bool) : List DVal := [.bool b]
abbrev dBls (l : List Bool) : DVal := .sl 1 1 (l.map dBl)
structure Auto where
 st : Int
 fin : List Int
 arcs : List Arc
 deriving DecidableEq
def dAuto (a : Auto) : List DVal := [.int .i64 a.st, dNums a.fin, dArcs a.arcs]
@[simp] theorem mx_dArc (s : Arc) : mxL (dArc s) = 0 := by simp [dArc, mxL, mx]
@[simp] theorem mx_dArcs (l : List Arc) : mxR (l.map dArc) = 0 := mxR0 _ mx_dArc l
@[simp] theorem mx_dNum (s : Int) : mxL (dNum s) = 0 := by simp [dNum, mxL, mx]
@[simp] theorem mx_dNums (l : List Int) : mxR (l.map dNum) = 0 := mxR0 _ mx_dNum l
@[simp] theorem mx_dBl (s : Bool) : mxL (dBl s) = 0 := by simp [dBl, mxL, mx]
@[simp] theorem mx_dBls (l : List Bool) : mxR (l.map dBl) = 0 := mxR0 _ mx_dBl l
@[simp] theorem mx_dAuto (a : Auto) : mxL (dAuto a) = 0 := by simp [dAuto, mxL, mx]
theorem len_nums {l : List Int} (h : wfD (dNums l)) : l.length < 9223372036854775807 := by
 simp only [wfD, List.length_map] at h
 omega
theorem len_arcs {l : List Arc} (h : wfD (dArcs l)) : l.length < 9223372036854775807 := by
 simp only [wfD, List.length_map] at h
 omega
theorem w_auto {a : Auto} (h : wfL (dAuto a)) : inR .i64 a.st ∧ a.fin.length < 9223372036854775807 ∧ a.arcs.length < 9223372036854775807 := by
 simp only [dAuto, wfL] at h
 exact ⟨by have := h.1; simpa only [wfD] using this, len_nums h.2.1, len_arcs h.2.2.1⟩

theorem range_all_succ {n : Nat} (f : Nat → Bool) : (List.range (n + 1)).all f = ((List.range n).all f && f n) := by
 rw [List.range_succ, List.all_append]; simp
def stB (s q : Int) : Bool := decide (0 ≤ q) && decide (q < s)
def okF (s : Int) (l : List Int) (k : Nat) : Bool := match l[k]? with
 | none => true
 | some q => stB s q && (decide (k = 0) || match l[k - 1]? with | none => true | some p => decide (p < q))
theorem okF_zero {s : Int} {l : List Int} {q : Int} (h : l[0]? = some q) : okF s l 0 = stB s q := by
 unfold okF; rw [h]; simp
theorem okF_pos {s : Int} {l : List Int} {k : Nat} {p q : Int} (hk : 0 < k) (h : l[k]? = some q) (hp : l[k - 1]? = some p) : okF s l k = (stB s q && decide (p < q)) := by
 unfold okF; rw [h]
 simp only [hp, show ¬ k = 0 by omega, decide_false, Bool.false_or]
def arcC (x y : Arc) : Int := if cmpI x.fr y.fr = 0 then (if symC x.sy y.sy = 0 then cmpI x.to y.to else symC x.sy y.sy) else cmpI x.fr y.fr
def symLess (x y : Sym) : Bool := if x.label = y.label then decide (x.n < y.n) else y.label
def arcLess (x y : Arc) : Bool := if x.fr = y.fr then (if x.sy = y.sy then decide (x.to < y.to) else symLess x.sy y.sy) else decide (x.fr < y.fr)
theorem cmpI_zero {a b : Int} : cmpI a b = 0 ↔ a = b := by unfold cmpI; split <;> (try split) <;> omega
theorem cmpI_neg {a b : Int} : cmpI a b < 0 ↔ a < b := by unfold cmpI; split <;> (try split) <;> omega
theorem symC_zero {x y : Sym} : symC x y = 0 ↔ x = y := by
 obtain ⟨a, n⟩ := x
 obtain ⟨b, m⟩ := y
 unfold symC
 cases a <;> cases b <;> simp [cmpI_zero]
theorem symLess_eq (x y : Sym) : symLess x y = decide (symC x y < 0) := by
 obtain ⟨a, n⟩ := x
 obtain ⟨b, m⟩ := y
 unfold symC symLess
 cases a <;> cases b <;> simp [cmpI_neg]
theorem arcLess_eq (x y : Arc) : arcLess x y = decide (arcC x y < 0) := by
 unfold arcLess arcC
 by_cases h1 : x.fr = y.fr
 ·rw [if_pos h1, if_pos (cmpI_zero.2 h1)]
  by_cases h2 : x.sy = y.sy
  ·rw [if_pos h2, if_pos (symC_zero.2 h2)]
   exact decide_eq_decide.2 cmpI_neg.symm
  ·rw [if_neg h2, if_neg (fun h => h2 (symC_zero.1 h)), symLess_eq]
 ·rw [if_neg h1, if_neg (fun h => h1 (cmpI_zero.1 h))]
  exact decide_eq_decide.2 cmpI_neg.symm
def arcOK (s : Int) (x : Arc) : Bool := stB s x.fr && (stB s x.to && decide (0 ≤ x.sy.n))
def okA (s : Int) (l : List Arc) (k : Nat) : Bool := match l[k]? with
 | none => true
 | some q => arcOK s q && (decide (k = 0) || match l[k - 1]? with | none => true | some p => arcLess p q)
theorem okA_zero {s : Int} {l : List Arc} {q : Arc} (h : l[0]? = some q) : okA s l 0 = arcOK s q := by
 unfold okA; rw [h]; simp
theorem okA_pos {s : Int} {l : List Arc} {k : Nat} {p q : Arc} (hk : 0 < k) (h : l[k]? = some q) (hp : l[k - 1]? = some p) : okA s l k = (arcOK s q && arcLess p q) := by
 unfold okA; rw [h]
 simp only [hp, show ¬ k = 0 by omega, decide_false, Bool.false_or]
def autoOK (a : Auto) : Bool := decide (1 ≤ a.st) && decide (a.st ≤ 65) && ((List.range a.fin.length).all (okF a.st a.fin) && (List.range a.arcs.length).all (okA a.st a.arcs))
theorem ok_st {a : Auto} (h : autoOK a = true) : 1 ≤ a.st ∧ a.st ≤ 65 := by
 unfold autoOK at h
 simp only [Bool.and_eq_true, decide_eq_true_eq] at h
 exact h.1
theorem ok_fin {a : Auto} (h : autoOK a = true) {q : Int} (hq : q ∈ a.fin) : 0 ≤ q ∧ q < a.st := by
 unfold autoOK at h
 simp only [Bool.and_eq_true, List.all_eq_true] at h
 obtain ⟨k, hk, rfl⟩ := List.getElem_of_mem hq
 have := h.2.1 k (List.mem_range.2 hk)
 unfold okF stB at this
 rw [List.getElem?_eq_getElem hk] at this
 simp only [Bool.and_eq_true, decide_eq_true_eq] at this
 exact this.1
theorem ok_arc {a : Auto} (h : autoOK a = true) {x : Arc} (hx : x ∈ a.arcs) : 0 ≤ x.fr ∧ x.fr < a.st ∧ 0 ≤ x.to ∧ x.to < a.st := by
 unfold autoOK at h
 simp only [Bool.and_eq_true, List.all_eq_true] at h
 obtain ⟨k, hk, rfl⟩ := List.getElem_of_mem hx
 have := h.2.2 k (List.mem_range.2 hk)
 unfold okA arcOK stB at this
 rw [List.getElem?_eq_getElem hk] at this
 simp only [Bool.and_eq_true, decide_eq_true_eq] at this
 exact ⟨this.1.1.1, this.1.1.2, this.1.2.1.1, this.1.2.1.2⟩

def bAt (l : List Bool) (q : Int) : Bool := l[q.toNat]?.getD false
def bD (l : List Bool) : List (List DVal) := l.map dBl
theorem bD_len (l : List Bool) : (bD l).length = l.length := by unfold bD; rw [List.length_map]
@[simp] theorem mx_bD (l : List Bool) : mxR (bD l) = 0 := mx_dBls l
theorem bD_set (l : List Bool) (k : Nat) (b : Bool) : (bD l).set k [.bool b] = bD (l.set k b) := by unfold bD; rw [List.map_set]; rfl
theorem bD_rep (n : Nat) (b : Bool) : bD (List.replicate n b) = List.replicate n [.bool b] := by unfold bD; rw [List.map_replicate]; rfl
def numsK (l : List Bool) (k : Nat) : List Int := ((l.take k).zipIdx.filter (·.1)).map fun p => (p.2 : Int)
def numsB (l : List Bool) : List Int := (l.zipIdx.filter (·.1)).map fun p => (p.2 : Int)
theorem numsK_all (l : List Bool) : numsK l l.length = numsB l := by unfold numsK numsB; rw [List.take_length]
theorem numsK_next {l : List Bool} {k : Nat} {b : Bool} (h : l[k]? = some b) : numsK l (k + 1) = numsK l k ++ (if b then [(k : Int)] else []) := by
 unfold numsK
 obtain ⟨hk, _⟩ := List.getElem?_eq_some_iff.1 h
 have hm : min k l.length = k := by omega
 rw [List.take_add_one, h]
 cases b <;> simp [List.zipIdx_append, List.length_take, hm]
theorem numsK_len (l : List Bool) (k : Nat) : (numsK l k).length ≤ k := by
 unfold numsK
 rw [List.length_map]
 refine Nat.le_trans (List.length_filter_le _ _) ?_
 rw [List.length_zipIdx, List.length_take]
 omega
end Go.Proofs.YtdgocjbakjamaaaGreat
end

section
set_option linter.unusedSectionVars false
/- may an automaton be? -/


set_option linter.unusedSimpArgs false
set_option linter.unusedVariables false
namespace Go.Proofs.YtdgocjbakjamaaaGreat
open Go Go.Dm
variable [DMode]
attribute [local irreducible] DW callP callS
set_option maxRecDepth 100000

def anBX186 : Ann := ⟨[], []⟩
theorem state15_pure (a : Auto) (q : Int) : DPure Tryz.prog 86 [.int .i64 q, .ref (dAuto a)] (.bool (stB a.st q)) := by
 refine DPure_introF [] (fn := Tryz.f86) Tryz.func86 rfl Tryz.call86 (by simp [Tryz.ntmps86]) (by simp [mx]) ?_
 intro hwf B hnt
 simp only [Tryz.ntmps86] at hnt
 have hA := an_is anBX186 Tryz.mixed (aj2 @anBX186.eq_1 Tryz.results86)
 simp only [argS]
 by_cases h1 : 0 ≤ q
 ·by_cases h2 : q < a.st <;> exact go0 aj0 aj0 (aj4 @dAuto.eq_1 @stB.eq_1 h1 h2)
 ·exact go0 aj0 aj0 (aj3 @dAuto.eq_1 @stB.eq_1 h1)
def anBX1143 : Ann := ⟨[], []⟩
theorem bySym35_pure (x y : Sym) : DPure Tryz.prog 143 [.agg (dSym x), .agg (dSym y)] (.int .i64 (symC x y)) := by
 refine DPure_introF [] (fn := Tryz.f143) Tryz.func143 rfl Tryz.call143 (by simp [Tryz.ntmps143]) (by simp [mx]) ?_
 intro hwf B hnt
 simp only [Tryz.ntmps143] at hnt
 have hA := an_is anBX1143 Tryz.mixed (aj2 @anBX1143.eq_1 Tryz.results143)
 simp only [argS]
 cases h1 : x.label <;> cases h2 : y.label <;> exact go0 (aj1 (cmpInt_pure x.n y.n)) aj0 (aj4 @dSym.eq_1 h1 h2 @symC.eq_1)
def anBX174 : Ann := ⟨[], []⟩
theorem order16_pure (x y : Arc) : DPure Tryz.prog 74 [.agg (dArc x), .agg (dArc y)] (.int .i64 (arcC x y)) := by
 refine DPure_introF [] (fn := Tryz.f74) Tryz.func74 rfl Tryz.call74 (by simp [Tryz.ntmps74]) (by simp [mx]) ?_
 intro hwf B hnt
 simp only [Tryz.ntmps74] at hnt
 have hA := an_is anBX174 Tryz.mixed (aj2 @anBX174.eq_1 Tryz.results74)
 simp only [argS]
 have h1 := cmpInt_pure x.fr y.fr
 have h2 := bySym35_pure x.sy y.sy
 have h3 := cmpInt_pure x.to y.to
 have h4 := or3_pure (cmpI x.fr y.fr) (symC x.sy y.sy) (cmpI x.to y.to)
 simp only [dSym] at h2
 unfold arcC
 exact go0 (aj4 h1 h2 h3 h4) aj0 (aj1 @dArc.eq_1)
end Go.Proofs.YtdgocjbakjamaaaGreat
end

section
set_option linter.unusedSectionVars false
/- steps of automata -/


set_option linter.unusedSimpArgs false
set_option linter.unusedVariables false
namespace Go.Proofs.YtdgocjbakjamaaaGreat
open Go Go.Dm
variable [DMode]
attribute [local irreducible] DW callP callS
set_option maxRecDepth 100000

@[simp] theorem bD_tail (l : List Bool) (v : Nat) (h : v < (bD l).length) : ((bD l)[v]'h).tail = [] := by simp [bD, dBl]
theorem mx_rep (n : Nat) (b : Bool) : mxR (List.replicate n [DVal.bool b]) = 0 := by have := mx_bD (List.replicate n b); rwa [bD_rep] at this
theorem bAt_nat {l : List Bool} {u : Nat} {b : Bool} (h : l[u]? = some b) : bAt l (u : Int) = b := by
 unfold bAt; rw [Int.toNat_natCast, h]; rfl
end Go.Proofs.YtdgocjbakjamaaaGreat
end

section
set_option linter.unusedSectionVars false
/- Sets of states, spread along arcs till nothing is new. Plain Lean. -/

set_option linter.unusedSimpArgs false
set_option linter.unusedVariables false
namespace Go.Proofs.YtdgocjbakjamaaaGreat
open Go Go.Dm
variable [DMode]

def sFr (b : Bool) (x : Arc) : Int := if b = true then x.to else x.fr
def sTo (b : Bool) (x : Arc) : Int := if b = true then x.fr else x.to
def sprX (b : Bool) (g : Bool × List Bool) (x : Arc) : Bool × List Bool := if bAt g.2 (sFr b x) = true ∧ bAt g.2 (sTo b x) = false then (true, g.2.set (sTo b x).toNat true) else g
def sprP (b : Bool) (l : List Arc) (S : List Bool) : Bool × List Bool := l.foldl (sprX b) (false, S)
theorem sprX_len (b : Bool) (g : Bool × List Bool) (x : Arc) : (sprX b g x).2.length = g.2.length := by unfold sprX; split <;> simp
theorem sprL_len (b : Bool) : ∀ (l : List Arc) (g : Bool × List Bool), (l.foldl (sprX b) g).2.length = g.2.length
 | [], _ => rfl
 | x :: l, g => by rw [List.foldl_cons, sprL_len b l, sprX_len]
theorem bAt_set {S : List Bool} {t i : Int} (ht : t.toNat < S.length) : bAt (S.set t.toNat true) i = (bAt S i || decide (i.toNat = t.toNat)) := by
 unfold bAt
 rw [List.getElem?_set]
 by_cases h : t.toNat = i.toNat
 ·rw [if_pos h, if_pos (by omega), decide_eq_true h.symm]; simp
 ·rw [if_neg h, decide_eq_false (fun hh => h hh.symm)]; simp
theorem count_set : ∀ {S : List Bool} {n : Nat}, S[n]? = some false → (S.set n true).count false + 1 = S.count false
 | [], n, h => by simp at h
 | b :: S, 0, h => by simp at h; subst h; simp
 | b :: S, n + 1, h => by
  have ih := count_set (S := S) (n := n) (by simpa using h)
  rw [List.set_cons_succ, List.count_cons, List.count_cons]
  omega
theorem bAt_false {S : List Bool} {t : Int} (ht : t.toNat < S.length) (h : bAt S t = false) : S[t.toNat]? = some false := by
 unfold bAt at h
 rw [List.getElem?_eq_getElem ht] at h ⊢
 simpa using h
theorem sprL_mono (b : Bool) : ∀ (l : List Arc) (g : Bool × List Bool), (∀ x ∈ l, (sTo b x).toNat < g.2.length) → ∀ i, bAt g.2 i = true → bAt (l.foldl (sprX b) g).2 i = true
 | [], _, _, _, h => h
 | x :: l, g, hl, i, h => by
  rw [List.foldl_cons]
  refine sprL_mono b l _ (fun y hy => by rw [sprX_len]; exact hl y (List.mem_cons_of_mem _ hy)) i ?_
  unfold sprX
  split
  ·rw [bAt_set (hl x List.mem_cons_self), h]; rfl
  ·exact h
theorem sprL_on (b : Bool) : ∀ (l : List Arc) (g : Bool × List Bool), g.1 = true → (l.foldl (sprX b) g).1 = true
 | [], _, h => h
 | x :: l, g, h => by
  rw [List.foldl_cons]
  refine sprL_on b l _ ?_
  unfold sprX
  split
  ·rfl
  ·exact h
theorem sprL_still (b : Bool) : ∀ (l : List Arc) (g : Bool × List Bool), (l.foldl (sprX b) g).1 = false → l.foldl (sprX b) g = g ∧ ∀ x ∈ l, bAt g.2 (sFr b x) = true → bAt g.2 (sTo b x) = true
 | [], _, _ => ⟨rfl, by simp⟩
 | x :: l, g, h => by
  rw [List.foldl_cons] at h ⊢
  have hx : ¬ (bAt g.2 (sFr b x) = true ∧ bAt g.2 (sTo b x) = false) := fun hh => by
   have : (sprX b g x).1 = true := by unfold sprX; rw [if_pos hh]
   rw [sprL_on b l _ this] at h
   simp at h
  have he : sprX b g x = g := by unfold sprX; rw [if_neg hx]
  rw [he] at h ⊢
  obtain ⟨h1, h2⟩ := sprL_still b l g h
  refine ⟨h1, fun y hy => ?_⟩
  rcases List.mem_cons.1 hy with rfl | hy
  ·intro hf
   cases ht : bAt g.2 (sTo b y) with
   | true => rfl
   | false => exact absurd ⟨hf, ht⟩ hx
  ·exact h2 y hy
theorem sprL_cnt (b : Bool) : ∀ (l : List Arc) (g : Bool × List Bool), (∀ x ∈ l, (sTo b x).toNat < g.2.length) → (l.foldl (sprX b) g).2.count false ≤ g.2.count false ∧ (g.1 = false → (l.foldl (sprX b) g).1 = true → (l.foldl (sprX b) g).2.count false < g.2.count false)
 | [], g, _ => ⟨Nat.le_refl _, fun h h' => by simp only [List.foldl_nil] at h'; rw [h] at h'; simp at h'⟩
 | x :: l, g, hl => by
  rw [List.foldl_cons]
  obtain ⟨h1, h2⟩ := sprL_cnt b l (sprX b g x) (fun y hy => by rw [sprX_len]; exact hl y (List.mem_cons_of_mem _ hy))
  by_cases hx : bAt g.2 (sFr b x) = true ∧ bAt g.2 (sTo b x) = false
  ·have hc := count_set (bAt_false (hl x List.mem_cons_self) hx.2)
   have he : (sprX b g x).2 = g.2.set (sTo b x).toNat true := by unfold sprX; rw [if_pos hx]
   rw [he] at h1
   exact ⟨by omega, fun _ _ => by omega⟩
  ·have he : sprX b g x = g := by unfold sprX; rw [if_neg hx]
   rw [he] at h1 h2 ⊢
   exact ⟨h1, h2⟩
def sprF (b : Bool) (l : List Arc) : Nat → List Bool → List Bool
 | 0, S => S
 | n + 1, S => if (sprP b l S).1 = true then sprF b l n (sprP b l S).2 else (sprP b l S).2
theorem sprF_ok (b : Bool) (l : List Arc) : ∀ (n : Nat) (S : List Bool), S.count false < n → (∀ x ∈ l, (sTo b x).toNat < S.length) → (sprF b l n S).length = S.length ∧ (∀ i, bAt S i = true → bAt (sprF b l n S) i = true) ∧ ∀ x ∈ l, bAt (sprF b l n S) (sFr b x) = true → bAt (sprF b l n S) (sTo b x) = true
 | 0, S, h, _ => by omega
 | n + 1, S, h, hl => by
  have hln : (sprP b l S).2.length = S.length := sprL_len b l _
  unfold sprF
  split
  ·rename_i hp
   have hc := (sprL_cnt b l (false, S) hl).2 rfl hp
   obtain ⟨h1, h2, h3⟩ := sprF_ok b l n (sprP b l S).2 (by unfold sprP; simp only at hc ⊢; omega) (by rw [hln]; exact hl)
   exact ⟨by rw [h1, hln], fun i hi => h2 i (sprL_mono b l (false, S) hl i hi), h3⟩
  ·rename_i hp
   obtain ⟨h1, h2⟩ := sprL_still b l (false, S) (by simpa [sprP] using hp)
   have he : (sprP b l S).2 = S := by unfold sprP; rw [h1]
   rw [he]
   exact ⟨rfl, fun _ h => h, h2⟩
def sprK (b : Bool) (l : List Arc) (S : List Bool) (k : Nat) : Bool × List Bool := (l.take k).foldl (sprX b) (false, S)
theorem sprK_zero (b : Bool) (l : List Arc) (S : List Bool) : sprK b l S 0 = (false, S) := by simp [sprK]
theorem sprK_next {b : Bool} {l : List Arc} {S : List Bool} {k : Nat} {x : Arc} (h : l[k]? = some x) : sprK b l S (k + 1) = sprX b (sprK b l S k) x := by
 unfold sprK
 rw [List.take_add_one, h, List.foldl_append]
 rfl
theorem sprK_all (b : Bool) (l : List Arc) (S : List Bool) : sprK b l S l.length = sprP b l S := by unfold sprK sprP; rw [List.take_length]
theorem sprK_len (b : Bool) (l : List Arc) (S : List Bool) (k : Nat) : (sprK b l S k).2.length = S.length := sprL_len b _ _
theorem sprX_yes {b : Bool} {g : Bool × List Bool} {x : Arc} {v : Nat} (h1 : bAt g.2 (sFr b x) = true) (h2 : bAt g.2 (sTo b x) = false) (h3 : sTo b x = (v : Int)) : sprX b g x = (true, g.2.set v true) := by
 unfold sprX
 rw [if_pos ⟨h1, h2⟩, h3]
 rfl
theorem sprX_no {b : Bool} {g : Bool × List Bool} {x : Arc} (h : bAt g.2 (sFr b x) = false ∨ bAt g.2 (sTo b x) = true) : sprX b g x = g := by
 unfold sprX
 rw [if_neg]
 rintro ⟨h1, h2⟩
 rcases h with h | h
 ·rw [h] at h1; simp at h1
 ·rw [h] at h2; simp at h2
def andK (A B : List Bool) : Nat → List Bool
 | 0 => A
 | k + 1 => (andK A B k).set k (bAt (andK A B k) k && bAt B k)
theorem andK_len (A B : List Bool) : ∀ k, (andK A B k).length = A.length
 | 0 => rfl
 | k + 1 => by rw [andK, List.length_set, andK_len A B k]
theorem andK_all {A B : List Bool} {n : Nat} (hA : A = List.replicate n true) (hB : B = List.replicate n true) : ∀ k ≤ n, andK A B k = List.replicate n true
 | 0, _ => hA
 | k + 1, hk => by
  have h1 : bAt (List.replicate n true) (k : Int) = true := by
   unfold bAt
   rw [Int.toNat_natCast, List.getElem?_replicate, if_pos (by omega)]
   rfl
  rw [andK, andK_all hA hB k (by omega), hB, h1]
  refine List.ext_getElem (by simp) fun i h2 h3 => ?_
  rw [List.getElem_set]
  simp
theorem all_rep {S : List Bool} {n : Nat} (hl : S.length = n) (h : ∀ q : Nat, q < n → bAt S q = true) : S = List.replicate n true := by
 refine List.ext_getElem (by simp [hl]) fun i h1 h2 => ?_
 have := h i (by omega)
 unfold bAt at this
 rw [Int.toNat_natCast, List.getElem?_eq_getElem h1] at this
 simpa using this
theorem nums_rep (n : Nat) : (numsB (List.replicate n true)).length = n := by
 unfold numsB
 rw [List.length_map, List.filter_eq_self.2, List.length_zipIdx, List.length_replicate]
 rintro ⟨b, i⟩ h
 obtain ⟨_, _, h3⟩ := List.mem_zipIdx h
 simp at h3
 exact h3
end Go.Proofs.YtdgocjbakjamaaaGreat
end

section
set_option linter.unusedSectionVars false
/- steps of automata: the document's, sets and their numbers -/


set_option linter.unusedSimpArgs false
set_option linter.unusedVariables false
namespace Go.Proofs.YtdgocjbakjamaaaGreat
open Go Go.Dm
variable [DMode]
attribute [local irreducible] DW callP callS
set_option maxRecDepth 100000

def numD (l : List Int) : List (List DVal) := l.map dNum
theorem numD_len (l : List Int) : (numD l).length = l.length := by unfold numD; rw [List.length_map]
@[simp] theorem mx_numD (l : List Int) : mxR (numD l) = 0 := mx_dNums l
theorem numD_snoc (l : List Int) (n : Int) : numD (l ++ [n]) = numD l ++ [[.int .i64 n]] := by unfold numD; rw [List.map_append]; rfl
theorem numD_zero (S : List Bool) : numD (numsK S 0) = [] := rfl
def anBX685 : Ann := ⟨[], []⟩
set_option maxHeartbeats 4000000 in
theorem numbers_pure (S : List Bool) (hS : S.length ≤ 1000) : DPure Tryz.prog 85 [dBls S] (dNums (numsB S)) := by
 refine DPure_introF [50] (fn := Tryz.f85) Tryz.func85 rfl Tryz.call85 (by simp [Tryz.ntmps85]) (by simp [mx]) ?_
 intro hwf B hnt
 simp only [Tryz.ntmps85] at hnt
 have hA := an_is anBX685 Tryz.mixed (aj2 @anBX685.eq_1 Tryz.results85)
 clear hwf
 simp only [argS]
 (refine go1 aj0 aj0 aj0 ?_; intros; refine mk_i ?_)
 refine DW_adoptS 3 50 3 1 8 (by simp [hnt, Tryz.results85, anBX685]) (fun n => ?_)
 refine DW_loop (X := {k : Nat // k ≤ S.length}) (fun k => ⟨[(3, .osl 50 1), (6, dBls S), (7, .int .i64 S.length), (8, .int .i64 k.1)], [⟨50, 1, .row 3 1 8 (numD (numsK S k.1))⟩]⟩) (fun k => S.length - k.1) ⟨0, by simp⟩ (Sub.lit (by simp [numD_zero])) ?_
 rintro ⟨k, hk⟩
 simp only
 by_cases hlt : k < S.length
 ·obtain ⟨b, hb, hb', _⟩ := at_lt' hlt
  have hnx := numsK_next hb
  have hl := numsK_len S k
  have hz : (numD (numsK S k)).length + 1 ≤ 2000 := by rw [numD_len]; omega
  cases b
  ·simp only [Bool.false_eq_true, if_false, List.append_nil] at hnx
   (refine go1 aj0 aj0 (aj4 @dBl.eq_1 hlt hb hb') ?_; intros; refine mk_i ?_)
   refine Again.mk ⟨k + 1, by omega⟩ (Sub.lit (by simp [hnx])) (by simp; omega)
   skip
  ·simp only [if_true] at hnx
   (refine go1 aj0 aj0 (aj4 @dBl.eq_1 hlt hb hb') ?_; intros; refine mk_i ?_)
   refine Again.mk ⟨k + 1, by omega⟩ (Sub.lit (by simp [hnx, numD_snoc])) (by simp; omega)
   skip
 ·have hkk : k = S.length := by omega
  subst hkk
  have hall := numsK_all S
  exact go0 aj0 aj0 (aj2 hall @numD.eq_1)

end Go.Proofs.YtdgocjbakjamaaaGreat
end

section
set_option linter.unusedSectionVars false
/- may an automaton be? the program's answer -/


set_option linter.unusedSimpArgs false
set_option linter.unusedVariables false
namespace Go.Proofs.YtdgocjbakjamaaaGreat
open Go Go.Dm
variable [DMode]
attribute [local irreducible] DW callP callS
set_option maxRecDepth 100000

def anBX223 : Ann := ⟨[], [⟨10, [8], [], []⟩]⟩
set_option maxHeartbeats 4000000 in
theorem check7_pure (a : Auto) : DPure Tryz.prog 23 [.agg (dAuto a)] (.int .i64 (if autoOK a then 0 else 200)) := by
 refine DPure_introF [] (fn := Tryz.f23) Tryz.func23 rfl Tryz.call23 (by simp [Tryz.ntmps23]) (by simp [mx]) ?_
 intro hwf B hnt
 simp only [Tryz.ntmps23] at hnt
 have hA := an_is anBX223 Tryz.mixed (aj2 @anBX223.eq_1 Tryz.results23)
 obtain ⟨_, hw2, hw3⟩ := w_auto (a := a) (by simpa only [wfL, wfD, and_true] using hwf)
 clear hwf
 have hn1 : (-1 : Int).toNat = 0 := rfl
 have hn2 : IntKind.i64.wrap (-1) = -1 := wrap64_in (by omega) (by omega)
 simp only [argS]
 obtain ⟨b0, hb0⟩ : ∃ b0 : Bool, b0 = (decide (1 ≤ a.st) && decide (a.st ≤ 65)) := ⟨_, rfl⟩
 have hfin : autoOK a = (b0 && ((List.range a.fin.length).all (okF a.st a.fin) && (List.range a.arcs.length).all (okA a.st a.arcs))) := by rw [hb0]; rfl
 (refine go1 aj0 aj0 (aj1 @dAuto.eq_1) ?_; intros; refine mk_i ?_)
 refine DW_loop (X := {k : Nat // k ≤ a.fin.length}) (fun k => ⟨[(1, .ref [.int .i64 a.st, dNums a.fin, dArcs a.arcs]), (3, .fn (.func 86) [] [.ref [.int .i64 a.st, dNums a.fin, dArcs a.arcs]]), (4, .bool (b0 && (List.range k.1).all (okF a.st a.fin))), (19, dNums a.fin), (20, .int .i64 a.fin.length), (21, .int .i64 k.1)], []⟩) (fun k => a.fin.length - k.1) ⟨0, by simp⟩ (Sub.lit (by simp [hb0])) ?_
 rintro ⟨k, hk⟩
 simp only
 by_cases hlt : k < a.fin.length
 ·obtain ⟨q, hq, hq', hqm⟩ := at_lt' hlt
  have hst := range_all_succ (n := k) (okF a.st a.fin)
  obtain ⟨b, hb⟩ : ∃ b : Bool, b = (b0 && (List.range k).all (okF a.st a.fin)) := ⟨_, rfl⟩
  have hb1 : (b0 && (List.range (k + 1)).all (okF a.st a.fin)) = (b && okF a.st a.fin k) := by rw [hst, hb, Bool.and_assoc]
  have e1 := state15_pure a q
  simp only [dAuto] at e1
  simp only [← hb]
  cases k with
  | zero =>
   have ho := okF_zero (s := a.st) hq
   rw [ho] at hb1
   cases b <;> (refine go1 (aj1 e1) aj0 (aj6 @dNum.eq_1 hlt hq' hn1 hn2 hq) ?_; intros; refine mk_i ?_)
   all_goals
    refine Again.mk ⟨0 + 1, by omega⟩ (Sub.lit (by simp only [hb1]; simp)) (by simp; omega)
   skip
  | succ m =>
   obtain ⟨p, hp, hp', _⟩ := at_lt' (l := a.fin) (k := m) (by omega)
   have ho := okF_pos (s := a.st) (k := m + 1) (by omega) hq hp
   rw [ho] at hb1
   have hm1 : ¬ (m : Int) + 1 = 0 := by omega
   have hm2 : m < a.fin.length := by omega
   have hm5 : (m : Int) + 1 < (a.fin.length : Int) := by omega
   have hm3 : (((m : Int) + 1) == 0) = false := by simpa using hm1
   have hm4 : IntKind.i64.wrap (m : Int) = m := wrap64_in (by omega) (by omega)
   cases b <;> (refine go1 (aj1 e1) aj0 (aj10 @dNum.eq_1 hlt hq' hm1 hm2 hm3 hm4 hm5 hp' hp) ?_; intros; refine mk_i ?_)
   all_goals
    refine Again.mk ⟨m + 1 + 1, by omega⟩ (Sub.lit (by simp only [hb1]; simp)) (by simp; omega)
   skip
 ·have hkk : k = a.fin.length := by omega
  subst hkk
  obtain ⟨b1, hb1⟩ : ∃ b : Bool, b = (b0 && (List.range a.fin.length).all (okF a.st a.fin)) := ⟨_, rfl⟩
  rw [← Bool.and_assoc, ← hb1] at hfin
  rw [← hb1]
  (refine go1 aj0 aj0 aj0 ?_; intros; refine mk_i ?_)
  refine DW_loop (X := {k : Nat // k ≤ a.arcs.length}) (fun k => ⟨[(1, .ref [.int .i64 a.st, dNums a.fin, dArcs a.arcs]), (3, .fn (.func 86) [] [.ref [.int .i64 a.st, dNums a.fin, dArcs a.arcs]]), (4, .bool (b1 && (List.range k.1).all (okA a.st a.arcs))), (48, dArcs a.arcs), (49, .int .i64 a.arcs.length), (50, .int .i64 k.1)], []⟩) (fun k => a.arcs.length - k.1) ⟨0, by simp⟩ (Sub.lit (by simp)) ?_
  rintro ⟨k, hk⟩
  simp only
  by_cases hlt : k < a.arcs.length
  ·obtain ⟨x, hq, hq', hqm⟩ := at_lt' hlt
   have hst := range_all_succ (n := k) (okA a.st a.arcs)
   obtain ⟨b, hb⟩ : ∃ b : Bool, b = (b1 && (List.range k).all (okA a.st a.arcs)) := ⟨_, rfl⟩
   have hb2 : (b1 && (List.range (k + 1)).all (okA a.st a.arcs)) = (b && okA a.st a.arcs k) := by rw [hst, hb, Bool.and_assoc]
   have e1 := state15_pure a x.fr
   have e2 := state15_pure a x.to
   simp only [dAuto] at e1 e2
   simp only [← hb]
   cases k with
   | zero =>
    have ho := okA_zero (s := a.st) hq
    rw [ho] at hb2
    unfold arcOK at hb2
    cases b
    ·(refine go1 (aj2 e1 e2) aj0 (aj6 @dArc.eq_1 hlt hq' hn1 hn2 hq) ?_; intros; refine mk_i ?_)
     refine Again.mk ⟨0 + 1, by omega⟩ (Sub.lit (by simp only [hb2]; simp)) (by simp; omega)
     skip
    cases hS : stB a.st x.fr <;> rw [hS] at hb2 <;> (refine go1 (aj2 e1 e2) aj0 (aj7 @dArc.eq_1 hlt hq' hS hn1 hn2 hq) ?_; intros; refine mk_i ?_)
    all_goals
     refine Again.mk ⟨0 + 1, by omega⟩ (Sub.lit (by simp only [hb2]; simp)) (by simp; omega)
     skip
   | succ m =>
    obtain ⟨p, hp, hp', _⟩ := at_lt' (l := a.arcs) (k := m) (by omega)
    have ho := okA_pos (s := a.st) (k := m + 1) (by omega) hq hp
    rw [ho, arcLess_eq] at hb2
    unfold arcOK at hb2
    have hm1 : ¬ (m : Int) + 1 = 0 := by omega
    have hm2 : m < a.arcs.length := by omega
    have hm5 : (m : Int) + 1 < (a.arcs.length : Int) := by omega
    have hm3 : (((m : Int) + 1) == 0) = false := by simpa using hm1
    have hm4 : IntKind.i64.wrap (m : Int) = m := wrap64_in (by omega) (by omega)
    have e3 := order16_pure p x
    simp only [dArc] at e3
    cases b
    ·(refine go1 (aj3 e1 e2 e3) aj0 (aj10 @dArc.eq_1 hlt hq' hm1 hm2 hm3 hm4 hm5 hp' hp) ?_; intros; refine mk_i ?_)
     refine Again.mk ⟨m + 1 + 1, by omega⟩ (Sub.lit (by simp only [hb2]; simp)) (by simp; omega)
     skip
    cases hS : stB a.st x.fr <;> rw [hS] at hb2
    ·(refine go1 (aj3 e1 e2 e3) aj0 (aj11 @dArc.eq_1 hlt hq' hS hm1 hm2 hm3 hm4 hm5 hp' hp) ?_; intros; refine mk_i ?_)
     refine Again.mk ⟨m + 1 + 1, by omega⟩ (Sub.lit (by simp only [hb2]; simp)) (by simp; omega)
     skip
    cases hT : stB a.st x.to <;> rw [hT] at hb2
    ·(refine go1 (aj3 e1 e2 e3) aj0 (aj12 @dArc.eq_1 hlt hq' hS hT hm1 hm2 hm3 hm4 hm5 hp' hp) ?_; intros; refine mk_i ?_)
     refine Again.mk ⟨m + 1 + 1, by omega⟩ (Sub.lit (by simp only [hb2]; simp)) (by simp; omega)
     skip
    by_cases hN : 0 ≤ x.sy.n <;> simp only [hN, decide_true, decide_false] at hb2 <;> (refine go1 (aj3 e1 e2 e3) aj0 (aj13 @dArc.eq_1 hlt hq' hS hT hN hm1 hm2 hm3 hm4 hm5 hp' hp) ?_; intros; refine mk_i ?_)
    all_goals
     refine Again.mk ⟨m + 1 + 1, by omega⟩ (Sub.lit (by simp only [hb2]; simp)) (by simp; omega)
     skip
  ·have hkk : k = a.arcs.length := by omega
   subst hkk
   rw [← hfin]
   cases hA : autoOK a <;> (repeat (first | refine DW_seq fun K hK => ?_ | (refine DW_r anBX223 Tryz.mixed (by kernel_rfl) ?_; simp [anBX223, hnt, hA]; try simp (disch := omega) only [wrap64_in]) | refine DW_block ?_ | (refine DW_if ?_ ?_ ?_; (· (simp [hnt, hA]; done)); (try (rotate_left; (· (intro hc; (try simp [hnt, hA] at hc); done))))) | (refine DW_ret ?_; simp [Tryz.results23, hnt, hA]) | ((first | refine DW_exit ?_ | refine DW_skip ?_); simp [hnt, hA]) | (intro hc; (try simp [hnt, hA] at hc); (try (exfalso; omega))) | (refine ⟨?_, ?_⟩; · omega) | omega | apply_assumption -exfalso -symm | (exfalso; omega)))
end Go.Proofs.YtdgocjbakjamaaaGreat
end

section
set_option linter.unusedSectionVars false
/- Sets of states, spread along arcs till nothing is new; the states that count. -/




set_option linter.unusedSimpArgs false
set_option linter.unusedVariables false
namespace Go.Proofs.YtdgocjbakjamaaaGreat
open Go Go.Dm
variable [DMode]
attribute [local irreducible] DW callP callS
set_option maxRecDepth 100000

theorem bD_get {S : List Bool} {u : Nat} {b : Bool} (h : S[u]? = some b) : (bD S)[u]? = some [.bool b] := by unfold bD; rw [List.getElem?_map, h]; rfl
def anBY384 : Ann := ⟨[], [⟨6, [8], [], []⟩]⟩
set_option maxHeartbeats 8000000 in
theorem spread84_spec (a : Auto) (b : Bool) (S : List Bool) (hok : autoOK a = true) (hS : S.length = a.st.toNat) : DSpec Tryz.prog (.func 84) [.agg (dAuto a), .osl 0 0, .bool b] [⟨0, 0, .row 4 1 1 (bD S)⟩] (.tup []) [⟨0, 0, .row 4 1 1 (bD (sprF b a.arcs (S.count false + 1) S))⟩] := by
 refine DSpec_intro [] [(0, 0, 0)] (fn := Tryz.f84) Tryz.func84 rfl Tryz.call84 (by simp [Tryz.ntmps84]) (by simp) (by simp) ?_
 intro hwf B hnt
 simp only [Tryz.ntmps84] at hnt
 have hA := an_is anBY384 Tryz.mixed (aj2 @anBY384.eq_1 Tryz.results84)
 have hw3 := len_arcs (l := a.arcs) (by have := hwf.1; simp only [dAuto, wfD, wfL] at this; exact this.2.2.1)
 clear hwf
 obtain ⟨hs1, hs2⟩ := ok_st hok
 simp only [argS]
 obtain ⟨R, hR⟩ : ∃ R, R = sprF b a.arcs (S.count false + 1) S := ⟨_, rfl⟩
 have hto : ∀ x ∈ a.arcs, (sTo b x).toNat < a.st.toNat := fun x hx => by
  obtain ⟨b1, b2, b3, b4⟩ := ok_arc hok hx
  unfold sTo
  split <;> omega
 rw [← hR]
 (refine go1 aj0 aj0 (aj1 @dAuto.eq_1) ?_; intros; refine mk_i ?_)
 refine DW_loop (X := {p : Bool × List Bool × Nat // p.2.1.length = a.st.toNat ∧ (p.1 = true → p.2.1.count false < p.2.2 ∧ R = sprF b a.arcs p.2.2 p.2.1) ∧ (p.1 = false → R = p.2.1)}) (fun p => ⟨[(1, .osl 0 0), (2, .bool b), (3, .ref [.int .i64 a.st, dNums a.fin, dArcs a.arcs]), (6, .bool p.1.1)], [⟨0, 0, .row 4 1 1 (bD p.1.2.1)⟩]⟩) (fun p => if p.1.1 then p.1.2.2 + 1 else 0) ⟨(true, S, S.count false + 1), hS, fun _ => ⟨Nat.lt_succ_self _, hR⟩, by simp⟩ (Sub.lit (by simp)) ?_
 rintro ⟨⟨g, T, n⟩, hT, hg1, hg0⟩
 simp only at hT hg1 hg0 ⊢
 clear hR hS
 cases g
 ·have hRT := hg0 rfl
  rw [hRT]
  exact go0 aj0 aj0 aj0
 ·obtain ⟨hn, hRT⟩ := hg1 rfl
  clear hg0 hg1
  (refine go1 aj0 aj0 aj0 ?_; intros; refine mk_i ?_)
  refine DW_loop (X := {k : Nat // k ≤ a.arcs.length}) (fun k => ⟨[(1, .osl 0 0), (2, .bool b), (3, .ref [.int .i64 a.st, dNums a.fin, dArcs a.arcs]), (6, .bool (sprK b a.arcs T k.1).1), (13, dArcs a.arcs), (14, .int .i64 a.arcs.length), (15, .int .i64 k.1)], [⟨0, 0, .row 4 1 1 (bD (sprK b a.arcs T k.1).2)⟩]⟩) (fun k => a.arcs.length - k.1) ⟨0, by simp⟩ (Sub.lit (by simp [sprK_zero])) ?_
  rintro ⟨k, hk⟩
  simp only
  by_cases hlt : k < a.arcs.length
  ·obtain ⟨x, hx, hx', hxm⟩ := at_lt' hlt
   obtain ⟨b1, b2, b3, b4⟩ := ok_arc hok hxm
   have hnx := sprK_next (b := b) (S := T) hx
   have hlk := sprK_len b a.arcs T k
   obtain ⟨G, hG⟩ : ∃ G, G = sprK b a.arcs T k := ⟨_, rfl⟩
   rw [← hG] at hnx hlk ⊢
   obtain ⟨q, Z⟩ := G
   simp only at hlk ⊢
   obtain ⟨u, hu⟩ : ∃ u : Nat, x.fr = (u : Int) := ⟨x.fr.toNat, by omega⟩
   obtain ⟨v, hv⟩ : ∃ v : Nat, x.to = (v : Int) := ⟨x.to.toNat, by omega⟩
   have hul : u < Z.length := by omega
   have hvl : v < Z.length := by omega
   obtain ⟨cu, hcu, hcu', _⟩ := at_lt' hul
   obtain ⟨cv, hcv, hcv', _⟩ := at_lt' hvl
   have hbu := bAt_nat hcu
   have hbv := bAt_nat hcv
   have d1 := bD_get hcu
   have d2 := bD_get hcv
   have hulD : u < (bD Z).length := by rw [bD_len]; exact hul
   have hvlD : v < (bD Z).length := by rw [bD_len]; exact hvl
   have d1' : (bD Z)[u]'hulD = [.bool cu] := (List.getElem?_eq_some_iff.1 d1).2
   have d2' : (bD Z)[v]'hvlD = [.bool cv] := (List.getElem?_eq_some_iff.1 d2).2
   have s1 := bD_set Z v true
   have s2 := bD_set Z v false
   have s3 := bD_set Z u true
   have s4 := bD_set Z u false
   have t1 : cv = true → (bD Z).set v [.bool true] = bD Z := fun h => by rw [s1]; congr 1; rw [h] at hcv'; rw [← hcv']; exact List.set_getElem_self _
   have t2 : cv = false → (bD Z).set v [.bool false] = bD Z := fun h => by rw [s2]; congr 1; rw [h] at hcv'; rw [← hcv']; exact List.set_getElem_self _
   have t3 : cu = true → (bD Z).set u [.bool true] = bD Z := fun h => by rw [s3]; congr 1; rw [h] at hcu'; rw [← hcu']; exact List.set_getElem_self _
   have t4 : cu = false → (bD Z).set u [.bool false] = bD Z := fun h => by rw [s4]; congr 1; rw [h] at hcu'; rw [← hcu']; exact List.set_getElem_self _
   cases b
   ·have f1 : sFr false x = (u : Int) := hu
    have f2 : sTo false x = (v : Int) := hv
    cases cu
    ·rw [sprX_no (.inl (by rw [f1]; exact hbu))] at hnx
     cases cv
     ·have z := t2 rfl
      clear t1 t2 t3 t4 s1 s2 s3 s4
      cases q <;> (refine go1 aj0 aj0 (aj15 @dArc.eq_1 hlt hx' hu hv hul hvl d1 d1' d2 d2' hulD hvlD @bD_len z) ?_; intros; refine mk_i ?_)
      all_goals
       refine Again.mk ⟨k + 1, by omega⟩ (Sub.lit (by simp [hnx])) (by simp; omega)
     ·have z := t1 rfl
      clear t1 t2 t3 t4 s1 s2 s3 s4
      cases q <;> (refine go1 aj0 aj0 (aj15 @dArc.eq_1 hlt hx' hu hv hul hvl d1 d1' d2 d2' hulD hvlD @bD_len z) ?_; intros; refine mk_i ?_)
      all_goals
       refine Again.mk ⟨k + 1, by omega⟩ (Sub.lit (by simp [hnx])) (by simp; omega)
    ·cases cv
     ·rw [sprX_yes (v := v) (by rw [f1]; exact hbu) (by rw [f2]; exact hbv) f2] at hnx
      clear t1 t2 t3 t4 s2 s3 s4
      cases q <;> (refine go1 aj0 aj0 (aj15 @dArc.eq_1 hlt hx' hu hv hul hvl d1 d1' d2 d2' hulD hvlD @bD_len s1) ?_; intros; refine mk_i ?_)
      all_goals
       refine Again.mk ⟨k + 1, by omega⟩ (Sub.lit (by simp [hnx])) (by simp; omega)
     ·rw [sprX_no (.inr (by rw [f2]; exact hbv))] at hnx
      have z := t1 rfl
      clear t1 t2 t3 t4 s1 s2 s3 s4
      cases q <;> (refine go1 aj0 aj0 (aj15 @dArc.eq_1 hlt hx' hu hv hul hvl d1 d1' d2 d2' hulD hvlD @bD_len z) ?_; intros; refine mk_i ?_)
      all_goals
       refine Again.mk ⟨k + 1, by omega⟩ (Sub.lit (by simp [hnx])) (by simp; omega)
   ·have f1 : sFr true x = (v : Int) := hv
    have f2 : sTo true x = (u : Int) := hu
    cases cv
    ·rw [sprX_no (.inl (by rw [f1]; exact hbv))] at hnx
     cases cu
     ·have z := t4 rfl
      clear t1 t2 t3 t4 s1 s2 s3 s4
      cases q <;> (refine go1 aj0 aj0 (aj15 @dArc.eq_1 hlt hx' hu hv hul hvl d1 d1' d2 d2' hulD hvlD @bD_len z) ?_; intros; refine mk_i ?_)
      all_goals
       refine Again.mk ⟨k + 1, by omega⟩ (Sub.lit (by simp [hnx])) (by simp; omega)
     ·have z := t3 rfl
      clear t1 t2 t3 t4 s1 s2 s3 s4
      cases q <;> (refine go1 aj0 aj0 (aj15 @dArc.eq_1 hlt hx' hu hv hul hvl d1 d1' d2 d2' hulD hvlD @bD_len z) ?_; intros; refine mk_i ?_)
      all_goals
       refine Again.mk ⟨k + 1, by omega⟩ (Sub.lit (by simp [hnx])) (by simp; omega)
    ·cases cu
     ·rw [sprX_yes (v := u) (by rw [f1]; exact hbv) (by rw [f2]; exact hbu) f2] at hnx
      clear t1 t2 t3 t4 s1 s2 s4
      cases q <;> (refine go1 aj0 aj0 (aj15 @dArc.eq_1 hlt hx' hu hv hul hvl d1 d1' d2 d2' hulD hvlD @bD_len s3) ?_; intros; refine mk_i ?_)
      all_goals
       refine Again.mk ⟨k + 1, by omega⟩ (Sub.lit (by simp [hnx])) (by simp; omega)
     ·rw [sprX_no (.inr (by rw [f2]; exact hbu))] at hnx
      have z := t3 rfl
      clear t1 t2 t3 t4 s1 s2 s3 s4
      cases q <;> (refine go1 aj0 aj0 (aj15 @dArc.eq_1 hlt hx' hu hv hul hvl d1 d1' d2 d2' hulD hvlD @bD_len z) ?_; intros; refine mk_i ?_)
      all_goals
       refine Again.mk ⟨k + 1, by omega⟩ (Sub.lit (by simp [hnx])) (by simp; omega)
  ·have hkk : k = a.arcs.length := by omega
   subst hkk
   rw [sprK_all]
   have hpl : (sprP b a.arcs T).2.length = T.length := sprL_len b _ _
   have hcn := (sprL_cnt b a.arcs (false, T) (by rw [hT]; exact hto)).2 rfl
   obtain ⟨m, rfl⟩ : ∃ m, n = m + 1 := ⟨n - 1, by omega⟩
   unfold sprF at hRT
   (refine go1 aj0 aj0 aj0 ?_; intros; refine mk_i ?_)
   refine Again.mk ⟨((sprP b a.arcs T).1, (sprP b a.arcs T).2, m), by rw [hpl]; exact hT, fun h => ?_, fun h => ?_⟩ (Sub.lit (by simp)) ?_
   ·have h3 : (sprP b a.arcs T).2.count false < T.count false := hcn h
    simp only at h ⊢
    rw [if_pos h] at hRT
    exact ⟨by omega, hRT⟩
   ·simp only at h ⊢
    rw [if_neg (by rw [h]; simp)] at hRT
    exact hRT
   ·simp only [if_true]
    split <;> omega
end Go.Proofs.YtdgocjbakjamaaaGreat
end

section
set_option linter.unusedSectionVars false
/- The data machine, second make, part An: a region whose operations stand in no one order, gone through in each order that may be. -/

set_option linter.unusedSimpArgs false
set_option linter.unusedVariables false
namespace Go.Dm
variable [DMode]

inductive Pl where
 | done
 | one (i : Nat) (sub : Pl)
 | alt (i : Nat) (sub rest : Pl)
def heads : Pl → List Nat
 | .done => []
 | .one i _ => [i]
 | .alt i _ r => i :: heads r
def plOK (ops : Array Oper) : Pl → Array Bool → Bool
 | .done, _ => true
 | .one i sub, l => decide (Region.ready .any ops (l.setIfInBounds i true) = heads sub) && plOK ops sub (l.setIfInBounds i true)
 | .alt i sub r, l => decide (Region.ready .any ops (l.setIfInBounds i true) = heads sub) && plOK ops sub (l.setIfInBounds i true) && plOK ops r l
def plTop (ops : Array Oper) (p : Pl) (l : Array Bool) : Bool := decide (Region.ready .any ops l = heads p) && plOK ops p l
def dOpI (P : Program) (nt : Nat) (ow : List Nat) (ops : Array Oper) (i : Nat) (K : Cont) (s : DS) : Prop := match ops[i]? with
 | none => False
 | some o => o.guard = none ∧ dOpsX P nt ow [] [] #[o] [o] 0 K s
def dPl (P : Program) (nt : Nat) (ow : List Nat) (ops : Array Oper) (Q : Cont) : Pl → Cont
 | .done => Q
 | .one i sub => ⟨fun s => dOpI P nt ow ops i (dPl P nt ow ops Q sub) s⟩
 | .alt i sub r => ⟨fun s => dOpI P nt ow ops i (dPl P nt ow ops Q sub) s ∧ (dPl P nt ow ops Q r).f s⟩
section
variable {P : Program} {nt : Nat} {ow : List Nat} {ops : Array Oper} {Q : Cont} {s : DS}
theorem dPl_done : (dPl P nt ow ops Q .done).f s = Q.f s := id rfl
theorem dPl_one (i : Nat) (sub : Pl) : (dPl P nt ow ops Q (.one i sub)).f s = dOpI P nt ow ops i (dPl P nt ow ops Q sub) s := id rfl
theorem dPl_alt (i : Nat) (sub r : Pl) : (dPl P nt ow ops Q (.alt i sub r)).f s = (dOpI P nt ow ops i (dPl P nt ow ops Q sub) s ∧ (dPl P nt ow ops Q r).f s) := id rfl
theorem pl_sub : ∀ (p : Pl) (l : Array Bool) (i : Nat), plOK ops p l = true → (dPl P nt ow ops Q p).f s → i ∈ heads p → ∃ sub, dOpI P nt ow ops i (dPl P nt ow ops Q sub) s ∧ plTop ops sub (l.setIfInBounds i true) = true
 | .done, _, _, _, _, hi => by simp [heads] at hi
 | .one j sub, l, i, hk, h, hi => by
  simp only [heads, List.mem_singleton] at hi
  subst hi
  exact ⟨sub, h, hk⟩
 | .alt j sub r, l, i, hk, h, hi => by
  simp only [heads, List.mem_cons] at hi
  simp only [plOK, Bool.and_eq_true] at hk
  rcases hi with rfl | hi
  ·exact ⟨sub, h.1, by unfold plTop; rw [hk.1.1, hk.1.2]; rfl⟩
  ·exact pl_sub r l i hk.2 h.2 hi
end
theorem DW_any {P : Program} {B : Base} {s : DS} (ow : List Nat) (pl : Pl) {id : Nat} {ops : Array Oper} {Q : Exit → DS → Prop} (hm : P.follows .mixedOrders = true) (hok : plTop ops pl (Array.replicate ops.size false) = true)
  (h : (dPl P B.nt ow ops ⟨Q .normal⟩ pl).f s) : DW P B (.region id ops true) Q s := by
 intro a w loc R
 refine wpIn_region_any hm ?_
 have main : ∀ (fuel : Nat) (listed : Array Bool) (a : Act) (w : World) (s : DS) (loc : Nat → Loc) (pl : Pl), (List.range ops.size).countP (fun k => listed.getD k false) + fuel = ops.size → listed.size = ops.size → plTop ops pl listed = true → Rel B s a w loc →
   (dPl P B.nt ow ops ⟨Q .normal⟩ pl).f s → wpAnyIn (wd B.ro) 0 P .any ops (QQ B Q) fuel listed a w := by
  intro fuel
  induction fuel with
  | zero =>
   intro listed a w s loc pl hcnt hsz hpl R hf
   have hallS : ∀ i, i < ops.size → listed.getD i false = true := by
    intro i hi
    have := (List.countP_eq_length (p := fun k => listed.getD k false) (l := List.range ops.size)).1 (by simpa using hcnt) i (List.mem_range.2 hi)
    simpa using this
   have hr : Region.ready .any ops listed = [] := by
    rw [List.eq_nil_iff_forall_not_mem]
    intro i hi
    rw [mem_ready] at hi
    obtain ⟨h0, o, ho, _⟩ := hi
    have hlt : i < ops.size := (Array.getElem?_eq_some_iff.1 ho).1
    have h1 := hallS i hlt
    have hi' : i < listed.size := by omega
    simp only [Array.getD_eq_getD_getElem?, Array.getElem?_eq_getElem hi', Option.getD_some] at h0 h1
    rw [h0] at h1; simp at h1
   unfold plTop at hpl
   rw [hr] at hpl
   simp only [Bool.and_eq_true, decide_eq_true_eq] at hpl
   cases pl with
   | done => exact ⟨hr, s, loc, hf, R⟩
   | one i sub => simp [heads] at hpl
   | alt i sub r => simp [heads] at hpl
  | succ fuel ih =>
   intro listed a w s loc pl hcnt hsz hpl R hf
   unfold plTop at hpl
   simp only [Bool.and_eq_true, decide_eq_true_eq] at hpl
   refine ⟨fun hr => ?_, fun i hi => ?_⟩
   ·rw [hr] at hpl
    cases pl with
    | done => exact ⟨s, loc, hf, R⟩
    | one i sub => simp [heads] at hpl
    | alt i sub r => simp [heads] at hpl
   ·have hih := hi
    rw [hpl.1] at hih
    obtain ⟨sub, hd, hsub⟩ := pl_sub pl listed i hpl.2 hf hih
    rw [mem_ready] at hi
    obtain ⟨h0, o, ho, hpre⟩ := hi
    have hlt : i < ops.size := (Array.getElem?_eq_some_iff.1 ho).1
    have hi' : i < listed.size := by omega
    have hSi : listed.getD i false = false := by
     simp only [Array.getD_eq_getD_getElem?, Array.getElem?_eq_getElem hi', Option.getD_some] at h0 ⊢
     exact h0
    have hS' : (fun k => (listed.setIfInBounds i true).getD k false) = fun k => if k = i then true else listed.getD k false := by
     funext k
     by_cases hk : k = i
     ·subst hk; simp [hi']
     ·rw [if_neg hk, getD_set_ne false (Ne.symm hk)]
    have hc' : (List.range ops.size).countP (fun k => (listed.setIfInBounds i true).getD k false) + fuel = ops.size := by rw [hS', cnt_set _ i hSi _ hlt]; omega
    have ih' := fun s' a' w' loc' (hk : (dPl P B.nt ow ops ⟨Q .normal⟩ sub).f s') (R' : Rel B s' a' w' loc') => ih (listed.setIfInBounds i true) a' w' s' loc' sub hc' (by simpa using hsz) hsub R' hk
    unfold dOpI at hd
    rw [ho] at hd
    simp only at hd
    obtain ⟨hg, h⟩ := hd
    unfold wpOpIn
    rw [ho]
    simp only
    have hw : Region.wanted o (yielded ops a.tmps) = true := by simp [Region.wanted, hg]
    rw [if_pos hw]
    have ext : ExtE (ownM [] [] 0 s.own) s.own := by
     unfold ownM
     simp
     exact fun _ _ h => h
    have neu : ∀ (e : Operand → DVal) (d d' : DVal), (∀ x ∈ o.op.operands, Rds s loc B.M0 w (e x) (a.eval x)) → (∀ (w' : World) (v : Value), rd (curOf s.own loc) (hotOf s.own loc ++ B.M0) w'.heap d' v → rd (curOf s.own loc) (hotOf s.own loc ++ B.M0) w'.heap d v) →
      dstOK B.nt o.dst = true → OpOK1 P o (ownM [] [] 0 s.own) e d' → (dPl P B.nt ow ops ⟨Q .normal⟩ sub).f ⟨putS s.slots o.dst d, s.own⟩ → o.wpIn (wd B.ro) 0 P a w (wpAnyIn (wd B.ro) 0 P .any ops (QQ B Q) fuel (listed.setIfInBounds i true)) (QQ B Q) := by
     intro e d d' he hdv hd h1 hk
     rcases h1.ext ext (fun x _ => rfl) with ⟨c, g, args, hop, hcal, hp0⟩ | ⟨hp0, hq⟩
     ·exact call_wp (d' := d) (K := fun s' => s' = ⟨putS s.slots o.dst d, s.own⟩) R hd hop he hcal hp0 (fun _ => rfl) hdv (fun s' a' w' loc' hs' R' => by subst hs'; exact ih' _ a' w' loc' hk R')
     ·exact neu_wp (d := d) (K := fun s' => s' = ⟨putS s.slots o.dst d, s.own⟩) R hd he hp0 rfl (fun w' v h => hdv w' v (by rw [hq]; exact h)) (fun s' a' w' loc' hs' R' => by subst hs'; exact ih' _ a' w' loc' hk R')
    simp only [dOpsX] at h
    rw [hg] at h
    simp only at h
    split at h
    ·obtain ⟨hd, _, h⟩ := h
     obtain ⟨d, own', h1, h2⟩ := effX_out h (lim B s)
     exact eo_wp (R := R) (Nat.le_refl _) hd (fun x _ => R.ev x) (fun x _ => ev_mx _ x) h1 fun a' w' loc' R' => ih' _ a' w' loc' h2 R'
    ·obtain ⟨hd, h⟩ := h
     split at h
     ·rename_i c hop
      split at h
      ·rename_i g args hc
       obtain ⟨d, h1, h2⟩ := callP_out h
       exact neu _ d d (fun x _ => R.ev x) (fun _ _ h => h) hd (.inl ⟨c, g, args, hop, hc, h1⟩) h2
      ·exact neu _ _ _ (fun x _ => R.ev x) (fun _ _ h => h) hd (.inr ⟨h.1, rfl⟩) h.2
     ·exact neu _ _ _ (fun x _ => R.ev x) (fun _ _ h => h) hd (.inr ⟨h.1, rfl⟩) h.2
 refine main ops.size _ a w.drew s loc pl ?_ (by simp) hok ⟨R.st, R.upd.trans (Upd.drew (hotOf B.own0 B.loc0) w) (fun _ hx => .inl hx), R.new, R.ver, R.sl, R.nt, R.df⟩ h
 have : (List.range ops.size).countP (fun k => (Array.replicate ops.size false).getD k false) = 0 := by
  rw [List.countP_eq_zero]
  intro k _
  simp [Array.getD_eq_getD_getElem?, Array.getElem?_replicate]
  split <;> simp
 omega
theorem DW_anyC {P : Program} {B : Base} {s : DS} (ow : List Nat) (pl : Pl) (c : DS) {id : Nat} {ops : Array Oper} {Q : Exit → DS → Prop} (hm : P.follows .mixedOrders = true) (hok : plTop ops pl (Array.replicate ops.size false) = true)
  (h : (dPl P B.nt ow ops ⟨fun s' => Sub B s' c⟩ pl).f s) (hc : Q .normal c) : DW P B (.region id ops true) Q s := by
 intro a w loc R
 refine wpIn_mono (DW_any (Q := fun e s' => match e with | .normal => Sub B s' c | _ => False) ow pl hm hok h a w loc R) ?_
 rintro e a' w' ⟨s', loc', hq, R'⟩
 cases e <;> first
  | exact Sub.rel hq hc R'
  | exact hq.elim
end Go.Dm
end

section
set_option linter.unusedSectionVars false
/- The states of an automaton that count. -/



set_option linter.unusedSimpArgs false
set_option linter.unusedVariables false
namespace Go.Proofs.YtdgocjbakjamaaaGreat
open Go Go.Dm
variable [DMode]
attribute [local irreducible] DW callP callS
set_option maxRecDepth 100000

def bgS (a : Auto) : List Bool := (List.replicate a.st.toNat false).set 0 true
def fnK (a : Auto) (k : Nat) : List Bool := (a.fin.take k).foldl (fun S q => S.set q.toNat true) (List.replicate a.st.toNat false)
def fnS (a : Auto) : List Bool := fnK a a.fin.length
theorem bgS_len (a : Auto) : (bgS a).length = a.st.toNat := by simp [bgS]
theorem fnL_len : ∀ (l : List Int) (S : List Bool), (l.foldl (fun S q => S.set q.toNat true) S).length = S.length
 | [], _ => rfl
 | q :: l, S => by rw [List.foldl_cons, fnL_len l, List.length_set]
theorem fnK_len (a : Auto) (k : Nat) : (fnK a k).length = a.st.toNat := by unfold fnK; rw [fnL_len, List.length_replicate]
theorem fnK_next {a : Auto} {k : Nat} {q : Int} (h : a.fin[k]? = some q) : fnK a (k + 1) = (fnK a k).set q.toNat true := by
 unfold fnK
 rw [List.take_add_one, h, List.foldl_append]
 rfl
theorem fnK_zero (a : Auto) : bD (fnK a 0) = List.replicate a.st.toNat [.bool false] := bD_rep _ _
theorem bgS_D (a : Auto) : (List.replicate a.st.toNat [DVal.bool false]).set 0 [.bool true] = bD (bgS a) := by
 have := bD_set (List.replicate a.st.toNat false) 0 true
 rw [bD_rep] at this
 exact this
theorem fnL_has : ∀ (l : List Int) (S : List Bool) (q : Nat), (∀ x ∈ l, x.toNat < S.length) → (bAt S q = true ∨ (q : Int) ∈ l) → bAt (l.foldl (fun S q => S.set q.toNat true) S) q = true
 | [], S, q, _, h => by simpa using h
 | x :: l, S, q, hl, h => by
  rw [List.foldl_cons]
  have hx := hl x List.mem_cons_self
  refine fnL_has l _ q (fun y hy => by rw [List.length_set]; exact hl y (List.mem_cons_of_mem _ hy)) ?_
  rw [bAt_set hx]
  rcases h with h | h
  ·rw [h]; exact .inl rfl
  ·rcases List.mem_cons.1 h with h | h
   ·left; rw [← h]; simp
   ·exact .inr h
theorem fnS_has {a : Auto} (hok : autoOK a = true) {q : Nat} (h : (q : Int) ∈ a.fin) : bAt (fnS a) q = true := by
 unfold fnS fnK
 rw [List.take_length]
 refine fnL_has _ _ q (fun x hx => ?_) (.inr h)
 have := ok_fin hok hx
 rw [List.length_replicate]
 omega
def livA (a : Auto) : List Bool := sprF false a.arcs ((bgS a).count false + 1) (bgS a)
def livB (a : Auto) : List Bool := sprF true a.arcs ((fnS a).count false + 1) (fnS a)
def livS (a : Auto) : List Bool := andK (livA a) (livB a) a.st.toNat
theorem to_lt {a : Auto} (hok : autoOK a = true) (b : Bool) : ∀ x ∈ a.arcs, (sTo b x).toNat < a.st.toNat := fun x hx => by
 obtain ⟨b1, b2, b3, b4⟩ := ok_arc hok hx
 unfold sTo
 split <;> omega
theorem livA_ok {a : Auto} (hok : autoOK a = true) : (livA a).length = a.st.toNat ∧ bAt (livA a) 0 = true ∧ ∀ x ∈ a.arcs, bAt (livA a) x.fr = true → bAt (livA a) x.to = true := by
 obtain ⟨h1, h2, h3⟩ := sprF_ok false a.arcs ((bgS a).count false + 1) (bgS a) (Nat.lt_succ_self _) (by rw [bgS_len]; exact to_lt hok false)
 refine ⟨by rw [← bgS_len]; exact h1, h2 0 ?_, h3⟩
 have := ok_st hok
 have h3 : 0 < a.st.toNat := by omega
 unfold bgS bAt
 rw [List.getElem?_set]
 simp [h3]
theorem livB_ok {a : Auto} (hok : autoOK a = true) : (livB a).length = a.st.toNat ∧ (∀ q : Nat, (q : Int) ∈ a.fin → bAt (livB a) q = true) ∧ ∀ x ∈ a.arcs, bAt (livB a) x.to = true → bAt (livB a) x.fr = true := by
 have hl : (fnS a).length = a.st.toNat := fnK_len a _
 obtain ⟨h1, h2, h3⟩ := sprF_ok true a.arcs ((fnS a).count false + 1) (fnS a) (Nat.lt_succ_self _) (by rw [hl]; exact to_lt hok true)
 exact ⟨by rw [← hl]; exact h1, fun q hq => h2 q (fnS_has hok hq), h3⟩
def plLive : Pl := .alt 0 (.alt 1 (.alt 2 (.alt 3 (.alt 4 (.alt 5 (.one 6 (.one 7 .done)) (.one 6 (.one 5 (.one 7 .done)))) (.one 6 (.one 4 (.one 5 (.one 7 .done))))) (.one 6 (.one 3 (.one 4 (.one 5 (.one 7 .done)))))) (.one 3 (.alt 2 (.alt 4 (.alt 5 (.one 6 (.one 7 .done)) (.one 6 (.one 5 (.one 7 .done)))) (.one 6 (.one 4 (.one 5 (.one 7 .done))))) (.one 4 (.alt 2 (.alt 5 (.one 6 (.one 7 .done)) (.one 6 (.one 5 (.one 7 .done)))) (.one 5 (.one 2 (.one 6 (.one 7 .done))))))))) (.one 3 (.alt 1 (.alt 2 (.alt 4 (.alt 5 (.one 6 (.one 7 .done)) (.one 6 (.one 5 (.one 7 .done)))) (.one 6 (.one 4 (.one 5 (.one 7 .done))))) (.one 4 (.alt 2 (.alt 5 (.one 6 (.one 7 .done)) (.one 6 (.one 5 (.one 7 .done)))) (.one 5 (.one 2 (.one 6 (.one 7 .done))))))) (.one 4 (.alt 1 (.alt 2 (.alt 5 (.one 6 (.one 7 .done)) (.one 6 (.one 5 (.one 7 .done)))) (.one 5 (.one 2 (.one 6 (.one 7 .done))))) (.one 5 (.one 1 (.one 2 (.one 6 (.one 7 .done)))))))))) (.one 3 (.alt 0 (.alt 1 (.alt 2 (.alt 4 (.alt 5 (.one 6 (.one 7 .done)) (.one 6 (.one 5 (.one 7 .done)))) (.one 6 (.one 4 (.one 5 (.one 7 .done))))) (.one 4 (.alt 2 (.alt 5 (.one 6 (.one 7 .done)) (.one 6 (.one 5 (.one 7 .done)))) (.one 5 (.one 2 (.one 6 (.one 7 .done))))))) (.one 4 (.alt 1 (.alt 2 (.alt 5 (.one 6 (.one 7 .done)) (.one 6 (.one 5 (.one 7 .done)))) (.one 5 (.one 2 (.one 6 (.one 7 .done))))) (.one 5 (.one 1 (.one 2 (.one 6 (.one 7 .done)))))))) (.one 4 (.alt 0 (.alt 1 (.alt 2 (.alt 5 (.one 6 (.one 7 .done)) (.one 6 (.one 5 (.one 7 .done)))) (.one 5 (.one 2 (.one 6 (.one 7 .done))))) (.one 5 (.one 1 (.one 2 (.one 6 (.one 7 .done)))))) (.one 5 (.one 0 (.one 1 (.one 2 (.one 6 (.one 7 .done))))))))))
def anBY422 : Ann := ⟨[33, 36], []⟩
set_option maxHeartbeats 8000000 in
theorem live22_pure (a : Auto) (hok : autoOK a = true) : DPure Tryz.prog 22 [.agg (dAuto a)] (.tup [dNums (numsB (livS a)), .int .i64 0]) := by
 refine DPure_introF [] (fn := Tryz.f22) Tryz.func22 rfl Tryz.call22 (by simp [Tryz.ntmps22]) (by simp [mx]) ?_
 intro hwf B hnt
 simp only [Tryz.ntmps22] at hnt
 have hA := an_is anBY422 Tryz.mixed (aj2 @anBY422.eq_1 Tryz.results22)
 have hw2 := len_nums (l := a.fin) (by have := hwf.1; simp only [dAuto, wfD, wfL] at this; exact this.2.1)
 clear hwf
 obtain ⟨R, hR⟩ : ∃ R, R = livS a := ⟨_, rfl⟩
 rw [← hR]
 obtain ⟨hs1, hs2⟩ := ok_st hok
 have hmx : max a.st 0 = a.st := by omega
 have hsz : a.st.toNat * 1 ≤ 150000000000000 := by omega
 have hsz2 : a.st.toNat ≤ 9223372036854775807 := by omega
 have hst0 : 0 ≤ a.st := by omega
 have hst1 : a.st ≤ 150000000000000 := by omega
 have hst2 : a.st ≤ 9223372036854775807 := by omega
 have hst3 : 0 < a.st.toNat := by omega
 simp only [argS]
 have e1 := check7_pure a
 rw [hok] at e1
 simp only [if_true] at e1
 have hz := bgS_D a
 have hz2 := fnK_zero a
 simp only [dAuto] at e1
 have hm1 : mxR (List.replicate a.st.toNat [DVal.bool false]) = 0 := mx_rep _ _
 (repeat (first | (refine DW_anyC (id := 3) (anBY422).ow plLive (⟨[(1, .ref [.int .i64 a.st, dNums a.fin, dArcs a.arcs]), (4, .osl 14 1), (5, .osl 17 1)], [⟨14, 1, .row 4 1 1 (List.replicate a.st.toNat [.bool false])⟩, ⟨17, 1, .row 4 1 1 (List.replicate a.st.toNat [.bool false])⟩]⟩) Tryz.mixed (by kernel_rfl) ?_ ?_; (· (simp [dPl_one, dPl_alt, dPl_done, dOpI, plLive, anBY422, hnt, dAuto, hst0, hst1, hst2, hst3, hz, hm1]; (repeat (first | exact Sub.lit (by simp [hnt, dAuto, hst0, hst1, hst2, hst3, hz, hm1]) | refine ⟨?_, ?_⟩ | omega | intro _)); done))) | refine DW_seq fun K hK => ?_ | (refine DW_r anBY422 Tryz.mixed (by kernel_rfl) ?_; simp [anBY422, hnt, dAuto, hst0, hst1, hst2, hst3, hz, hm1]; try simp (disch := omega) only [wrap64_in]) | refine DW_block ?_ | (refine DW_if ?_ ?_ ?_; (· (simp [hnt, dAuto, hst0, hst1, hst2, hst3, hz, hm1]; done)); (try (rotate_left; (· (intro hc; (try simp [hnt, dAuto, hst0, hst1, hst2, hst3, hz, hm1] at hc); done))))) | (refine DW_ret ?_; simp [Tryz.results22, hnt, dAuto, hst0, hst1, hst2, hst3, hz, hm1]) | ((first | refine DW_exit ?_ | refine DW_skip ?_); simp [hnt, dAuto, hst0, hst1, hst2, hst3, hz, hm1]) | (intro hc; (try simp [hnt, dAuto, hst0, hst1, hst2, hst3, hz, hm1] at hc); (try (exfalso; omega))) | ((first | refine callP_mk (e1) ?_ | (refine callP_wk (e1) ?_ ?_; (· (simp; done)))); try simp [hnt, dAuto, hst0, hst1, hst2, hst3, hz, hm1]) | (refine ⟨?_, ?_⟩; · omega) | omega | apply_assumption -exfalso -symm | (exfalso; omega)))
 refine DW_loop (X := {k : Nat // k ≤ a.fin.length}) (fun k => ⟨[(1, .ref [.int .i64 a.st, dNums a.fin, dArcs a.arcs]), (4, .osl 14 1), (5, .osl 17 1), (21, dNums a.fin), (22, .int .i64 a.fin.length), (23, .int .i64 k.1)], [⟨14, 1, .row 4 1 1 (bD (bgS a))⟩, ⟨17, 1, .row 4 1 1 (bD (fnK a k.1))⟩]⟩) (fun k => a.fin.length - k.1) ⟨0, by simp⟩ (Sub.lit (by simp [hz2, hm1])) ?_
 rintro ⟨k, hk⟩
 simp only
 by_cases hlt : k < a.fin.length
 ·obtain ⟨x, hx, hx', hxm⟩ := at_lt' hlt
  obtain ⟨b1, b2⟩ := ok_fin hok hxm
  obtain ⟨u, hu⟩ : ∃ u : Nat, x = (u : Int) := ⟨x.toNat, by omega⟩
  have hnx := fnK_next hx
  have hlk := fnK_len a k
  obtain ⟨Z, hZ⟩ : ∃ Z, Z = fnK a k := ⟨_, rfl⟩
  rw [← hZ] at hnx hlk ⊢
  rw [hu, Int.toNat_natCast] at hnx
  have hul : u < Z.length := by omega
  have s1 := bD_set Z u true
  (refine go1 aj0 aj0 (aj7 @dNum.eq_1 hlt hx' hu hul @bD_len s1) ?_; intros; refine mk_i ?_)
  refine Again.mk ⟨k + 1, by omega⟩ (Sub.lit (by simp [hnx])) (by simp; omega)
  skip
 ·have hkk : k = a.fin.length := by omega
  subst hkk
  clear hk hlt hz hz2
  have e2 := spread84_spec a false (bgS a) hok (bgS_len a)
  have e3 := spread84_spec a true (fnS a) hok (fnK_len a _)
  have hfs : fnK a a.fin.length = fnS a := rfl
  rw [hfs]
  have hLA := (livA_ok hok).1
  have hLB := (livB_ok hok).1
  obtain ⟨P, hP⟩ : ∃ P, P = livA a := ⟨_, rfl⟩
  obtain ⟨Q, hQ⟩ : ∃ Q, Q = livB a := ⟨_, rfl⟩
  have e2' : sprF false a.arcs ((bgS a).count false + 1) (bgS a) = P := hP.symm
  have e3' : sprF true a.arcs ((fnS a).count false + 1) (fnS a) = Q := hQ.symm
  unfold livS at hR
  rw [← hP, ← hQ] at hR
  rw [← hP] at hLA
  rw [← hQ] at hLB
  rw [e2'] at e2
  rw [e3'] at e3
  clear e2' e3' hP hQ
  simp only [dAuto] at e2 e3
  (refine go1 aj0 (aj2 (spc [(14,0)] [] e2) (spc [(17,0)] [] e3)) (aj1 @dAuto.eq_1) ?_; intros; refine mk_i ?_)
  have hPl : (bD P).length = a.st.toNat := by rw [bD_len]; exact hLA
  refine DW_loop (X := {k : Nat // k ≤ a.st.toNat}) (fun k => ⟨[(4, .osl 14 1), (5, .osl 17 1), (38, .int .i64 a.st), (39, .int .i64 k.1)], [⟨14, 1, .row 4 1 1 (bD (andK P Q k.1))⟩, ⟨17, 1, .row 4 1 1 (bD Q)⟩]⟩) (fun k => a.st.toNat - k.1) ⟨0, by simp⟩ (Sub.lit (by simp [andK, hPl, hst0, hmx])) ?_
  rintro ⟨k, hk⟩
  simp only
  by_cases hlt : k < a.st.toNat
  ·have hlk := andK_len P Q k
   have hnx : andK P Q (k + 1) = (andK P Q k).set k (bAt (andK P Q k) k && bAt Q k) := rfl
   obtain ⟨Z, hZ⟩ : ∃ Z, Z = andK P Q k := ⟨_, rfl⟩
   rw [← hZ] at hnx hlk ⊢
   have hzl : k < Z.length := by omega
   have hql : k < Q.length := by omega
   obtain ⟨cz, hcz, hcz', _⟩ := at_lt' hzl
   obtain ⟨cq, hcq, hcq', _⟩ := at_lt' hql
   rw [bAt_nat hcz, bAt_nat hcq] at hnx
   have d1 := bD_get hcz
   have d2 := bD_get hcq
   have hzD : k < (bD Z).length := by rw [bD_len]; exact hzl
   have hqD : k < (bD Q).length := by rw [bD_len]; exact hql
   have d1' : (bD Z)[k]'hzD = [.bool cz] := (List.getElem?_eq_some_iff.1 d1).2
   have d2' : (bD Q)[k]'hqD = [.bool cq] := (List.getElem?_eq_some_iff.1 d2).2
   have s0 := bD_set Z k false
   have s1 := bD_set Z k cq
   have hki : (k : Int) < a.st := by omega
   cases cz <;> (repeat (first | refine DW_seq fun K hK => ?_ | (refine DW_r anBY422 Tryz.mixed (by kernel_rfl) ?_; simp [anBY422, hnt, hki, d1, d1', d2, d2', hzD, hqD, hzl, hql, bD_len, s0, s1]; try simp (disch := omega) only [wrap64_in]) | refine DW_block ?_ | (refine DW_if ?_ ?_ ?_; (· (simp [hnt, hki, d1, d1', d2, d2', hzD, hqD, hzl, hql, bD_len, s0, s1]; done)); (try (rotate_left; (· (intro hc; (try simp [hnt, hki, d1, d1', d2, d2', hzD, hqD, hzl, hql, bD_len, s0, s1] at hc); done))))) | (refine DW_ret ?_; simp [Tryz.results22, hnt, hki, d1, d1', d2, d2', hzD, hqD, hzl, hql, bD_len, s0, s1]) | ((first | refine DW_exit ?_ | refine DW_skip ?_); simp [hnt, hki, d1, d1', d2, d2', hzD, hqD, hzl, hql, bD_len, s0, s1]) | (intro hc; (try simp [hnt, hki, d1, d1', d2, d2', hzD, hqD, hzl, hql, bD_len, s0, s1] at hc); (try (exfalso; omega))) | (refine ⟨?_, ?_⟩; · omega) | omega | apply_assumption -exfalso -symm | (exfalso; omega)))
   all_goals
    refine Again.mk ⟨k + 1, by omega⟩ (Sub.lit (by simp [hnx, s0, s1])) (by simp; omega)
  ·have hkk : k = a.st.toNat := by omega
   subst hkk
   have hki : ¬ ((a.st.toNat : Nat) : Int) < a.st := by omega
   have hlk := andK_len P Q a.st.toNat
   have e4 := numbers_pure (andK P Q a.st.toNat) (by omega)
   rw [← hR] at e4
   have hR2 : andK P Q a.st.toNat = R := hR.symm
   refine DW_sub (Sub.freezeL [14] _) ?_
   simp
   exact go0 (aj1 e4) aj0 (aj3 hki @bD.eq_1 hR2)
end Go.Proofs.YtdgocjbakjamaaaGreat
end

section
set_option linter.unusedSectionVars false
/- Texts, edges, graphs: shapes. -/

set_option linter.unusedSimpArgs false
set_option linter.unusedVariables false
namespace Go.Proofs.YtdgocjbakjamaaaGreat
open Go Go.Dm
variable [DMode]

instance : LawfulBEq ByteArray where
 eq_of_beq {a b} h := by
  rw [← data_beq] at h
  have h := eq_of_beq h
  cases a; cases b; simp only at h; rw [h]
 rfl {a} := by rw [← data_beq]; exact beq_self_eq_true _
structure Edge where
 fr : ByteArray
 lb : ByteArray
 to : ByteArray
 deriving DecidableEq
structure Edges where
 nodes : List ByteArray
 edges : List Edge
 deriving DecidableEq
def dStr (s : ByteArray) : List DVal := [.str s]
def dEdge (e : Edge) : List DVal := [.str e.fr, .str e.lb, .str e.to]
abbrev dStrs (l : List ByteArray) : DVal := .sl 1 16 (l.map dStr)
abbrev dEds (l : List Edge) : DVal := .sl 3 48 (l.map dEdge)
def dGr (g : Edges) : List DVal := [dStrs g.nodes, dEds g.edges]
@[simp] theorem mx_dStr (s : ByteArray) : mxL (dStr s) = 0 := by simp [dStr, mxL, mx]
@[simp] theorem mx_dEdge (s : Edge) : mxL (dEdge s) = 0 := by simp [dEdge, mxL, mx]
@[simp] theorem mx_dStrs (l : List ByteArray) : mxR (l.map dStr) = 0 := mxR0 _ mx_dStr l
@[simp] theorem mx_dEds (l : List Edge) : mxR (l.map dEdge) = 0 := mxR0 _ mx_dEdge l
@[simp] theorem mx_dGr (g : Edges) : mxL (dGr g) = 0 := by simp [dGr, mxL, mx]

def sLess (a b : ByteArray) : Bool := Op.bytesLess a.data.toList b.data.toList
theorem bl_irr : ∀ l : List UInt8, Op.bytesLess l l = false
 | [] => rfl
 | a :: l => by simp [Op.bytesLess, bl_irr l]
theorem bl_trans : ∀ {a b c : List UInt8}, Op.bytesLess a b = true → Op.bytesLess b c = true → Op.bytesLess a c = true
 | _, [], _, h, _ => by cases ‹List UInt8› <;> simp [Op.bytesLess] at h
 | _, _ :: _, [], _, h => by simp [Op.bytesLess] at h
 | [], _ :: _, _ :: _, _, _ => by simp [Op.bytesLess]
 | x :: a, y :: b, z :: c, h1, h2 => by
  simp only [Op.bytesLess, Bool.or_eq_true, Bool.and_eq_true, decide_eq_true_eq, beq_iff_eq] at h1 h2 ⊢
  rcases h1 with h1 | ⟨rfl, h1⟩
  ·rcases h2 with h2 | ⟨rfl, h2⟩
   ·exact .inl (UInt8.lt_trans h1 h2)
   ·exact .inl h1
  ·rcases h2 with h2 | ⟨rfl, h2⟩
   ·exact .inl h2
   ·exact .inr ⟨rfl, bl_trans h1 h2⟩
theorem bl_tri : ∀ {a b : List UInt8}, Op.bytesLess a b = false → Op.bytesLess b a = false → a = b
 | [], [], _, _ => rfl
 | [], _ :: _, h, _ => by simp [Op.bytesLess] at h
 | _ :: _, [], _, h => by simp [Op.bytesLess] at h
 | x :: a, y :: b, h1, h2 => by
  simp only [Op.bytesLess, Bool.or_eq_false_iff, Bool.and_eq_false_iff, decide_eq_false_iff_not, beq_eq_false_iff_ne] at h1 h2
  have hxy : x = y := UInt8.le_antisymm (UInt8.not_lt.1 h2.1) (UInt8.not_lt.1 h1.1)
  subst hxy
  rw [bl_tri (h1.2.resolve_left (by simp)) (h2.2.resolve_left (by simp))]
theorem sLess_irr (a : ByteArray) : sLess a a = false := bl_irr _
theorem sLess_trans {a b c : ByteArray} (h1 : sLess a b = true) (h2 : sLess b c = true) : sLess a c = true := bl_trans h1 h2
theorem bytes_ext {a b : ByteArray} (h : a.data.toList = b.data.toList) : a = b := by
 obtain ⟨⟨x⟩⟩ := a
 obtain ⟨⟨y⟩⟩ := b
 simp only at h
 subst h
 rfl
theorem sLess_tri {a b : ByteArray} (h1 : sLess a b = false) (h2 : sLess b a = false) : a = b := bytes_ext (bl_tri h1 h2)
theorem sLess_asym {a b : ByteArray} (h : sLess a b = true) : sLess b a = false := by
 cases hb : sLess b a
 ·rfl
 ·have := sLess_trans h hb; rw [sLess_irr] at this; simp at this
theorem sLess_ne {a b : ByteArray} (h : sLess a b = true) : a ≠ b := fun e => by subst e; rw [sLess_irr] at h; simp at h
def sCmp (a b : ByteArray) : Int := if sLess a b then -1 else if sLess b a then 1 else 0
theorem sCmp_zero {a b : ByteArray} : sCmp a b = 0 ↔ a = b := by
 unfold sCmp
 constructor
 ·intro h
  split at h
  ·simp at h
  ·split at h
   ·simp at h
   ·rename_i h1 h2
    exact sLess_tri (by simpa using h1) (by simpa using h2)
 ·rintro rfl
  rw [sLess_irr]; simp
theorem sCmp_neg {a b : ByteArray} : sCmp a b < 0 ↔ sLess a b = true := by
 unfold sCmp
 split
 ·simp_all
 ·split <;> simp_all
end Go.Proofs.YtdgocjbakjamaaaGreat
end

section
set_option linter.unusedSectionVars false
/- small ones at texts and edges -/


set_option linter.unusedSimpArgs false
set_option linter.unusedVariables false
namespace Go.Proofs.YtdgocjbakjamaaaGreat
open Go Go.Dm
variable [DMode]
attribute [local irreducible] DW callP callS
set_option maxRecDepth 100000

def placeS (l : List ByteArray) (s : ByteArray) : Int := if l.any (fun x => s == x) then ((l.findIdx fun x => s == x : Nat) : Int) else -1
theorem placeS_some {l : List ByteArray} {s : ByteArray} {k : Nat} (hk : k < l.length) (h : l[k] = s) (hno : ∀ i x, i < k → l[i]? = some x → (s == x) = false) : placeS l s = k := by
 unfold placeS
 have hb : (s == l[k]) = true := by rw [h]; exact beq_self_eq_true _
 rw [if_pos (List.any_eq_true.2 ⟨l[k], List.getElem_mem _, hb⟩)]
 congr 1
 rw [List.findIdx_eq hk]
 exact ⟨hb, fun i hi => hno i _ hi (List.getElem?_eq_getElem (by omega))⟩
theorem placeS_none {l : List ByteArray} {s : ByteArray} (hno : ∀ i x, i < l.length → l[i]? = some x → (s == x) = false) : placeS l s = -1 := by
 unfold placeS
 rw [if_neg]
 simp only [Bool.not_eq_true, List.any_eq_false]
 intro x hx
 obtain ⟨i, hi, rfl⟩ := List.getElem_of_mem hx
 rw [hno i _ hi (List.getElem?_eq_getElem hi)]
theorem hno_next {l : List ByteArray} {s x : ByteArray} {k : Nat} (hx : l[k]? = some x) (hb : (s == x) = false) (hno : ∀ i x, i < k → l[i]? = some x → (s == x) = false) : ∀ i x, i < k + 1 → l[i]? = some x → (s == x) = false := by
 intro i y hi hy
 by_cases hik : i = k
 ·subst hik; rw [hx] at hy; simp only [Option.some.injEq] at hy; subst hy; exact hb
 ·exact hno i y (by omega) hy
theorem len_strs {l : List ByteArray} (h : wfD (dStrs l)) : l.length < 9223372036854775807 := by
 simp only [wfD, List.length_map] at h
 omega
def anWB2201 : Ann := ⟨[], []⟩
theorem index139_pure (l : List ByteArray) (s : ByteArray) : DPure Tryz.prog 201 [dStrs l, .str s] (.int .i64 (placeS l s)) := by
 refine DPure_introF [] (fn := Tryz.f201) Tryz.func201 rfl Tryz.call201 (by simp [Tryz.ntmps201]) (by simp [mx]) ?_
 intro hwf B hnt
 simp only [Tryz.ntmps201] at hnt
 have hA := an_is anWB2201 Tryz.mixed (aj2 @anWB2201.eq_1 Tryz.results201)
 have hlen := len_strs hwf.1
 clear hwf
 simp only [argS]
 obtain ⟨R, hR⟩ : ∃ R, R = placeS l s := ⟨_, rfl⟩
 rw [← hR]
 (refine go1 aj0 aj0 aj0 ?_; intros; refine mk_i ?_)
 refine DW_loop (X := {k : Nat // k ≤ l.length ∧ ∀ i x, i < k → l[i]? = some x → (s == x) = false}) (fun x => ⟨[(0, dStrs l), (1, .str s), (7, .int .i64 l.length), (8, .int .i64 x.1)], []⟩) (fun x => l.length - x.1) ⟨0, by simp⟩ (Sub.lit (by simp)) ?_
 rintro ⟨k, hk, hno⟩
 by_cases hlt : k < l.length
 ·obtain ⟨x, hx, hx', hxm⟩ := at_lt' hlt
  cases hb : s == x
  ·(refine go1 aj0 aj0 (aj5 @dStr.eq_1 hlt hx' hx hb) ?_; intros; refine mk_i ?_)
   exact Again.mk ⟨k + 1, by omega, hno_next hx hb hno⟩ (Sub.lit (by simp [])) (by simp; omega)
   skip
  ·have hRk : R = k := by rw [hR]; exact placeS_some hlt (by rw [hx']; exact (by simpa using hb : s = x).symm) hno
   subst hRk
   exact go0 aj0 aj0 (aj5 @dStr.eq_1 hlt hx' hx hb)
 ·have hkk : k = l.length := by omega
  subst hkk
  have hRk : R = -1 := by rw [hR]; exact placeS_none hno
  subst hRk
  exact go0 aj0 aj0 aj0
def anWB2128 : Ann := ⟨[], []⟩
theorem contains104_pure (l : List ByteArray) (s : ByteArray) : DPure Tryz.prog 128 [dStrs l, .str s] (.bool (decide (0 ≤ placeS l s))) := by
 refine DPure_introF [] (fn := Tryz.f128) Tryz.func128 rfl Tryz.call128 (by simp [Tryz.ntmps128]) (by simp [mx]) ?_
 intro hwf B hnt
 simp only [Tryz.ntmps128] at hnt
 have hA := an_is anWB2128 Tryz.mixed (aj2 @anWB2128.eq_1 Tryz.results128)
 simp only [argS]
 exact go0 (aj1 (index139_pure l s)) aj0 aj0
end Go.Proofs.YtdgocjbakjamaaaGreat
end

section
set_option linter.unusedSectionVars false
/- letters, names, labels -/

set_option linter.unusedSimpArgs false
set_option linter.unusedVariables false
namespace Go.Proofs.YtdgocjbakjamaaaGreat
open Go Go.Dm
variable [DMode]
attribute [local irreducible] DW callP callS
set_option maxRecDepth 100000

def letB (n : Int) : Bool := (decide (97 ≤ n) && decide (n ≤ 122)) || (decide (65 ≤ n) && decide (n ≤ 90)) || (decide (48 ≤ n) && decide (n ≤ 57)) || n == 95
def letS (s : ByteArray) : Bool := s.data.toList.all fun b => letB (b.toNat : Int)
def nameOK (s : ByteArray) : Bool := decide (1 ≤ s.size) && decide (s.size ≤ 16) && letS s
theorem size_toList (s : ByteArray) : s.data.toList.length = s.size := rfl

end Go.Proofs.YtdgocjbakjamaaaGreat
end

section
set_option linter.unusedSectionVars false
/- regex.Check at one node; letters and names of regular expressions -/



set_option linter.unusedSimpArgs false
set_option linter.unusedVariables false
namespace Go.Proofs.YtdgocjbakjamaaaGreat
open Go Go.Dm
variable [DMode]
attribute [local irreducible] DW callP callS
set_option maxRecDepth 100000

def upI (n : Int) : Bool := decide (65 ≤ n) && decide (n ≤ 90)
def loI (n : Int) : Bool := decide (97 ≤ n) && decide (n ≤ 122)
def anWR1264 : Ann := ⟨[], []⟩
theorem upper197_pure (n : Int) : DPure Tryz.prog 264 [.int .u8 n] (.bool (upI n)) := by
 refine DPure_introF [] (fn := Tryz.f264) Tryz.func264 rfl Tryz.call264 (by simp [Tryz.ntmps264]) (by simp [mx]) ?_
 intro hwf B hnt
 simp only [Tryz.ntmps264] at hnt
 have hA := an_is anWR1264 Tryz.mixed (aj2 @anWR1264.eq_1 Tryz.results264)
 simp only [argS]
 by_cases h1 : 65 ≤ n
 ·by_cases h2 : n ≤ 90 <;> exact go0 aj0 aj0 (aj3 @upI.eq_1 h1 h2)
 ·exact go0 aj0 aj0 (aj2 @upI.eq_1 h1)
def anWR1265 : Ann := ⟨[], []⟩
theorem lower198_pure (n : Int) : DPure Tryz.prog 265 [.int .u8 n] (.bool (loI n)) := by
 refine DPure_introF [] (fn := Tryz.f265) Tryz.func265 rfl Tryz.call265 (by simp [Tryz.ntmps265]) (by simp [mx]) ?_
 intro hwf B hnt
 simp only [Tryz.ntmps265] at hnt
 have hA := an_is anWR1265 Tryz.mixed (aj2 @anWR1265.eq_1 Tryz.results265)
 simp only [argS]
 by_cases h1 : 97 ≤ n
 ·by_cases h2 : n ≤ 122 <;> exact go0 aj0 aj0 (aj3 @loI.eq_1 h1 h2)
 ·exact go0 aj0 aj0 (aj2 @loI.eq_1 h1)
def anWR1236 : Ann := ⟨[], []⟩
theorem rupper154_pure (n : Int) : DPure Tryz.prog 236 [.int .u8 n] (.bool (upI n)) := by
 refine DPure_introF [] (fn := Tryz.f236) Tryz.func236 rfl Tryz.call236 (by simp [Tryz.ntmps236]) (by simp [mx]) ?_
 intro hwf B hnt
 simp only [Tryz.ntmps236] at hnt
 have hA := an_is anWR1236 Tryz.mixed (aj2 @anWR1236.eq_1 Tryz.results236)
 simp only [argS]
 by_cases h1 : 65 ≤ n
 ·by_cases h2 : n ≤ 90 <;> exact go0 aj0 aj0 (aj3 @upI.eq_1 h1 h2)
 ·exact go0 aj0 aj0 (aj2 @upI.eq_1 h1)
def anWR1237 : Ann := ⟨[], []⟩
theorem rlower155_pure (n : Int) : DPure Tryz.prog 237 [.int .u8 n] (.bool (loI n)) := by
 refine DPure_introF [] (fn := Tryz.f237) Tryz.func237 rfl Tryz.call237 (by simp [Tryz.ntmps237]) (by simp [mx]) ?_
 intro hwf B hnt
 simp only [Tryz.ntmps237] at hnt
 have hA := an_is anWR1237 Tryz.mixed (aj2 @anWR1237.eq_1 Tryz.results237)
 simp only [argS]
 by_cases h1 : 97 ≤ n
 ·by_cases h2 : n ≤ 122 <;> exact go0 aj0 aj0 (aj3 @loI.eq_1 h1 h2)
 ·exact go0 aj0 aj0 (aj2 @loI.eq_1 h1)
theorem letB_eq (n : Int) : letB n = (upI n || loI n || (decide (48 ≤ n) && decide (n ≤ 57)) || n == 95) := by
 unfold letB upI loI
 cases decide (65 ≤ n) <;> cases decide (n ≤ 90) <;> cases decide (97 ≤ n) <;> cases decide (n ≤ 122) <;> rfl
def anWR1235 : Ann := ⟨[], []⟩
theorem inner153_pure (n : Int) : DPure Tryz.prog 235 [.int .u8 n] (.bool (letB n)) := by
 refine DPure_introF [] (fn := Tryz.f235) Tryz.func235 rfl Tryz.call235 (by simp [Tryz.ntmps235]) (by simp [mx]) ?_
 intro hwf B hnt
 simp only [Tryz.ntmps235] at hnt
 have hA := an_is anWR1235 Tryz.mixed (aj2 @anWR1235.eq_1 Tryz.results235)
 simp only [argS]
 rw [letB_eq]
 have e1 := rupper154_pure n
 have e2 := rlower155_pure n
 cases hU : upI n
 ·rw [hU] at e1
  cases hL : loI n
  ·rw [hL] at e2
   by_cases h5 : 48 ≤ n
   ·by_cases h6 : n ≤ 57
    ·exact go0 (aj2 e1 e2) aj0 (aj2 h5 h6)
    ·have h7 : n = 95 ∨ ¬ n = 95 := by omega
     rcases h7 with h7 | h7
     ·subst h7
      exact go0 (aj2 e1 e2) aj0 aj0
     ·exact go0 (aj2 e1 e2) aj0 (aj3 h5 h6 h7)
   ·have h7 : ¬ n = 95 := by omega
    exact go0 (aj2 e1 e2) aj0 (aj2 h5 h7)
  ·rw [hL] at e2
   exact go0 (aj2 e1 e2) aj0 aj0
 ·rw [hU] at e1
  exact go0 (aj1 e1) aj0 aj0

def headQ (q : Int → Bool) (s : ByteArray) : Bool := match s.data.toList with | [] => false | b :: _ => q (b.toNat : Int)
theorem headQ_at {q : Int → Bool} {s : ByteArray} {b : UInt8} (hb : s.data.toList[0]? = some b) : headQ q s = q (b.toNat : Int) := by
 unfold headQ
 cases hd : s.data.toList with
 | nil => rw [hd] at hb; simp at hb
 | cons x l => rw [hd] at hb; simp at hb; subst hb; rfl
def anWR1263 : Ann := ⟨[], []⟩
theorem named196_pure (g : FuncId) (q : Int → Bool) (hq : ∀ n, DPure Tryz.prog g [.int .u8 n] (.bool (q n))) (s : ByteArray) : DPure Tryz.prog 263 [.str s, .fn (.func g) [] []] (.bool (nameOK s && headQ q s)) := by
 refine DPure_introF [] (fn := Tryz.f263) Tryz.func263 rfl Tryz.call263 (by simp [Tryz.ntmps263]) (by simp [mx]) ?_
 intro hwf B hnt
 simp only [Tryz.ntmps263] at hnt
 have hA := an_is anWR1263 Tryz.mixed (aj2 @anWR1263.eq_1 Tryz.results263)
 have hsz : s.size ≤ 9223372036854775807 := by have := hwf.1; simp only [wfD, maxLen] at this; omega
 clear hwf
 simp only [argS]
 obtain ⟨R, hR⟩ : ∃ R, R = (nameOK s && headQ q s) := ⟨_, rfl⟩
 rw [← hR]
 by_cases h1 : 1 ≤ s.size
 ·by_cases h2 : s.size ≤ 16
  ·have g1 : ¬ (s.size : Int) < 1 := by omega
   have g2 : ¬ (16 : Int) < s.size := by omega
   have g0 : 0 < s.size := by omega
   obtain ⟨b0, hb0, hb0', _⟩ := at_lt' (show 0 < s.data.toList.length by rw [size_toList]; omega)
   have e0 := hq (b0.toNat : Int)
   rw [headQ_at hb0] at hR
   cases hQ : q (b0.toNat : Int)
   ·rw [hQ] at e0 hR
    have hR2 : R = false := by rw [hR]; simp
    subst hR2
    exact go0 (aj1 e0) aj0 (aj7 g0 g1 g2 h1 h2 hb0 hb0')
   ·rw [hQ] at e0 hR
    simp only [Bool.and_true] at hR
    (refine go1 (aj1 e0) aj0 (aj7 g0 g1 g2 h1 h2 hb0 hb0') ?_; intros; refine mk_i ?_)
    refine DW_loop (X := {k : Nat // k ≤ s.size ∧ letS s = ((s.data.toList.drop k).all fun b => letB (b.toNat : Int))}) (fun k => ⟨[(0, .str s), (23, .int .i64 s.size), (24, .int .i64 k.1)], []⟩) (fun k => s.size - k.1) ⟨0, by simp [letS]⟩ (Sub.lit (by simp)) ?_
    clear e0 hb0 hb0' hQ
    rintro ⟨k, hk, hl⟩
    by_cases hlt : k < s.size
    ·obtain ⟨b, hb, hb', _⟩ := at_lt' (show k < s.data.toList.length by rw [size_toList]; exact hlt)
     rw [List.drop_eq_getElem_cons (by rw [size_toList]; exact hlt), hb', List.all_cons] at hl
     have e1 := upper197_pure (b.toNat : Int)
     have e2 := lower198_pure (b.toNat : Int)
     obtain ⟨L, hLL⟩ : ∃ L, L = letB (b.toNat : Int) := ⟨_, rfl⟩
     have hLe := letB_eq (b.toNat : Int)
     rw [← hLL] at hl hLe
     cases hU : upI (b.toNat : Int)
     ·rw [hU] at e1
      cases hV : loI (b.toNat : Int)
      ·rw [hV] at e2
       by_cases h5 : (48 : Int) ≤ (b.toNat : Int)
       ·by_cases h6 : (b.toNat : Int) ≤ 57
        ·have h7 : ¬ (b.toNat : Int) = 95 := by omega
         have hL1 : L = true := by rw [hLe]; simp [hU, hV, h5, h6]
         rw [hL1, Bool.true_and] at hl
         (refine go1 (aj2 e1 e2) aj0 (aj7 hlt hb hb' hU hV h5 h6) ?_; intros; refine mk_i ?_)
         refine Again.mk ⟨k + 1, by omega, hl⟩ (Sub.lit (by simp)) (by simp; omega)
         skip
        ·by_cases h7 : (b.toNat : Int) = 95
         ·have hL1 : L = true := by rw [hLe]; simp [hU, hV, h5, h6, h7]
          rw [h7] at e1 e2
          rw [hL1, Bool.true_and] at hl
          (refine go1 (aj2 e1 e2) aj0 (aj8 hlt hb hb' hU hV h5 h6 h7) ?_; intros; refine mk_i ?_)
          refine Again.mk ⟨k + 1, by omega, hl⟩ (Sub.lit (by simp)) (by simp; omega)
          skip
         ·have hL1 : L = false := by rw [hLe]; simp [hU, hV, h5, h6, h7]
          rw [hL1, Bool.false_and] at hl
          have hR2 : R = false := by rw [hR]; unfold nameOK; rw [hl]; simp
          subst hR2
          exact go0 (aj2 e1 e2) aj0 (aj8 hlt hb hb' hU hV h5 h6 h7)
       ·have h7 : ¬ (b.toNat : Int) = 95 := by omega
        have hL1 : L = false := by rw [hLe]; simp [hU, hV, h5, h7]
        rw [hL1, Bool.false_and] at hl
        have hR2 : R = false := by rw [hR]; unfold nameOK; rw [hl]; simp
        subst hR2
        exact go0 (aj2 e1 e2) aj0 (aj7 hlt hb hb' hU hV h5 h7)
      ·rw [hV] at e2
       have hL1 : L = true := by rw [hLe]; simp [hU, hV]
       rw [hL1, Bool.true_and] at hl
       (refine go1 (aj2 e1 e2) aj0 (aj5 hlt hb hb' hU hV) ?_; intros; refine mk_i ?_)
       refine Again.mk ⟨k + 1, by omega, hl⟩ (Sub.lit (by simp)) (by simp; omega)
       skip
     ·rw [hU] at e1
      have hL1 : L = true := by rw [hLe]; simp [hU]
      rw [hL1, Bool.true_and] at hl
      (refine go1 (aj1 e1) aj0 (aj4 hlt hb hb' hU) ?_; intros; refine mk_i ?_)
      refine Again.mk ⟨k + 1, by omega, hl⟩ (Sub.lit (by simp)) (by simp; omega)
      skip
    ·have hkk : k = s.size := by omega
     subst hkk
     rw [← size_toList, List.drop_length] at hl
     have hR2 : R = true := by rw [hR]; unfold nameOK; rw [hl]; simp [h1, h2]
     subst hR2
     exact go0 aj0 aj0 aj0
  ·have g1 : ¬ (s.size : Int) < 1 := by omega
   have g2 : (16 : Int) < s.size := by omega
   have hR2 : R = false := by rw [hR]; unfold nameOK; simp [h2]
   subst hR2
   exact go0 aj0 aj0 (aj4 g1 g2 h1 h2)
 ·have g1 : (s.size : Int) < 1 := by omega
  have hR2 : R = false := by rw [hR]; unfold nameOK; simp [h1]
  subst hR2
  exact go0 aj0 aj0 (aj2 g1 h1)

def txtOK (k : Int) (s : ByteArray) : Bool := if k = 2 then nameOK s && headQ upI s else nameOK s && headQ loI s
abbrev dNode (k : Int) (s : ByteArray) (n : Int) : List DVal := [.int .i64 k, .str s, .int .i64 n]
def anWR1205 : Ann := ⟨[], []⟩
theorem may183_pure (k : Int) (hk : k = 2 ∨ k = 3) (s : ByteArray) : DPure Tryz.prog 205 [.agg (dNode k s 0)] (.bool (txtOK k s)) := by
 refine DPure_introF [] (fn := Tryz.f205) Tryz.func205 rfl Tryz.call205 (by simp [Tryz.ntmps205]) (by simp [mx]) ?_
 intro hwf B hnt
 simp only [Tryz.ntmps205] at hnt
 have hA := an_is anWR1205 Tryz.mixed (aj2 @anWR1205.eq_1 Tryz.results205)
 simp only [argS]
 have e1 := named196_pure 264 upI upper197_pure s
 have e2 := named196_pure 265 loI lower198_pure s
 unfold txtOK
 rcases hk with rfl | rfl
 ·exact go0 (aj2 e1 e2) aj0 (aj1 @dNode.eq_1)
 ·exact go0 (aj2 e1 e2) aj0 (aj1 @dNode.eq_1)
def anWR1133 : Ann := ⟨[], [⟨4, [5], [], []⟩]⟩
theorem whole151_pure (k : Int) (hk : k = 2 ∨ k = 3) (s : ByteArray) : DPure Tryz.prog 133 [.sl 3 32 [dNode k s 0]] (.bool (txtOK k s)) := by
 refine DPure_introF [] (fn := Tryz.f133) Tryz.func133 rfl Tryz.call133 (by simp [Tryz.ntmps133]) (by simp [mx]) ?_
 intro hwf B hnt
 simp only [Tryz.ntmps133] at hnt
 have hA := an_is anWR1133 Tryz.mixed (aj2 @anWR1133.eq_1 Tryz.results133)
 simp only [argS]
 have e1 := may183_pure k hk s
 obtain ⟨R, hR⟩ : ∃ R, R = txtOK k s := ⟨_, rfl⟩
 rw [← hR] at e1 ⊢
 (refine go1 aj0 aj0 (aj1 @dNode.eq_1) ?_; intros; refine mk_i ?_)
 refine DW_loop (X := {k : Nat // k = 0 ∨ k = 1 ∧ R = true}) (fun x => ⟨[(0, .sl 3 32 [dNode k s 0]), (3, .int .i64 (1 - x.1)), (6, .sl 3 32 [dNode k s 0]), (7, .int .i64 1), (8, .int .i64 x.1)], []⟩) (fun x => 1 - x.1) ⟨0, .inl rfl⟩ (Sub.lit (by simp [dNode])) ?_
 rintro ⟨x, rfl | ⟨rfl, rfl⟩⟩
 ·simp only [dNode] at e1
  cases R
  ·exact go0 (aj1 e1) aj0 (aj1 @dNode.eq_1)
  ·(refine go1 (aj1 e1) aj0 (aj1 @dNode.eq_1) ?_; intros; refine mk_i ?_)
   refine Again.mk ⟨1, .inr ⟨rfl, rfl⟩⟩ (Sub.lit (by simp [dNode])) (by simp)
   skip
 ·exact go0 aj0 aj0 (aj1 @dNode.eq_1)
end Go.Proofs.YtdgocjbakjamaaaGreat
end

section
set_option linter.unusedSectionVars false
/- Nodes, trees as lists: plain Lean. -/

set_option linter.unusedSimpArgs false
set_option linter.unusedVariables false
namespace Go.Proofs.YtdgocjbakjamaaaGreat
open Go Go.Dm
variable [DMode]

structure Nd where
 k : Int
 s : ByteArray
 n : Int
 deriving DecidableEq
def dNd (x : Nd) : List DVal := [.int .i64 x.k, .str x.s, .int .i64 x.n]
abbrev dNds (l : List Nd) : DVal := .sl 3 32 (l.map dNd)
structure Rul where
 h : ByteArray
 b : List Nd
 deriving DecidableEq
def dRul (r : Rul) : List DVal := [.str r.h, dNds r.b]
abbrev dRuls (l : List Rul) : DVal := .sl 2 40 (l.map dRul)
@[simp] theorem mx_dNd (s : Nd) : mxL (dNd s) = 0 := by simp [dNd, mxL, mx]
@[simp] theorem mx_dNds (l : List Nd) : mxR (l.map dNd) = 0 := mxR0 _ mx_dNd l
@[simp] theorem mx_dRul (s : Rul) : mxL (dRul s) = 0 := by simp [dRul, mxL, mx]
@[simp] theorem mx_dRuls (l : List Rul) : mxR (l.map dRul) = 0 := mxR0 _ mx_dRul l
theorem len_nds {l : List Nd} (h : wfD (dNds l)) : l.length < 9223372036854775807 := by
 simp only [wfD, List.length_map] at h
 omega
theorem len_ruls {l : List Rul} (h : wfD (dRuls l)) : l.length < 9223372036854775807 := by
 simp only [wfD, List.length_map] at h
 omega
def emp (s : ByteArray) : Bool := decide (s = ⟨#[]⟩)
def mayN (x : Nd) : Bool :=
 if x.k = 1 then emp x.s && decide (x.n = 0)
 else if x.k = 2 then decide (x.n = 0) && (nameOK x.s && headQ upI x.s)
 else if x.k = 3 then decide (x.n = 0) && (nameOK x.s && headQ loI x.s)
 else if x.k = 4 then emp x.s && decide (2 ≤ x.n)
 else if x.k = 5 then emp x.s && decide (2 ≤ x.n)
 else if x.k = 6 then emp x.s && decide (x.n = 1)
 else if x.k = 7 then emp x.s && decide (x.n = 1)
 else if x.k = 8 then emp x.s && decide (x.n = 1)
 else false
theorem mayN_kids {x : Nd} (h : mayN x = true) : 0 ≤ x.n := by
 unfold mayN at h
 repeat' split at h
 all_goals simp only [Bool.and_eq_true, decide_eq_true_eq, Bool.false_eq_true] at h
 all_goals first | omega | (exact absurd h (by simp)) | (obtain ⟨h1, h2⟩ := h; omega)
theorem mayN_kind {x : Nd} (h : mayN x = true) : x.k = 1 ∨ x.k = 2 ∨ x.k = 3 ∨ x.k = 4 ∨ x.k = 5 ∨ x.k = 6 ∨ x.k = 7 ∨ x.k = 8 := by
 unfold mayN at h
 repeat' split at h
 all_goals first | omega | (exact absurd h (by simp))
theorem mayN_size {x : Nd} (h : mayN x = true) : x.s.size ≤ 16 := by
 have hn : ∀ s, nameOK s = true → s.size ≤ 16 := fun s hs => by unfold nameOK at hs; simp only [Bool.and_eq_true, decide_eq_true_eq] at hs; exact hs.1.2
 have he : ∀ s, emp s = true → s.size ≤ 16 := fun s hs => by unfold emp at hs; simp only [decide_eq_true_eq] at hs; subst hs; decide
 unfold mayN at h
 repeat' split at h
 all_goals simp only [Bool.and_eq_true, decide_eq_true_eq, Bool.false_eq_true] at h
 all_goals first | exact he _ h.1 | exact hn _ h.2.1 | (exact absurd h (by simp))

inductive RT where
 | mk (x : Nd) (ks : List RT)
def RT.x : RT → Nd
 | .mk x _ => x
def RT.ks : RT → List RT
 | .mk _ ks => ks
mutual
def flat : RT → List Nd
 | .mk x ks => x :: flatL ks
def flatL : List RT → List Nd
 | [] => []
 | t :: ts => flat t ++ flatL ts
end
mutual
def okT : RT → Bool
 | .mk x ks => mayN x && (decide (x.n = (ks.length : Int)) && okL ks)
def okL : List RT → Bool
 | [] => true
 | t :: ts => okT t && okL ts
end
theorem okT_mk {x : Nd} {ks : List RT} (h : okT (.mk x ks) = true) : mayN x = true ∧ x.n = (ks.length : Int) ∧ okL ks = true := by
 unfold okT at h
 simp only [Bool.and_eq_true, decide_eq_true_eq] at h
 exact h
theorem okL_cons {t : RT} {ts : List RT} (h : okL (t :: ts) = true) : okT t = true ∧ okL ts = true := by
 unfold okL at h
 simp only [Bool.and_eq_true] at h
 exact h
theorem okL_mem {ts : List RT} (h : okL ts = true) : ∀ t ∈ ts, okT t = true := by
 induction ts with
 | nil => simp
 | cons t ts ih =>
  obtain ⟨h1, h2⟩ := okL_cons h
  intro u hu
  rcases List.mem_cons.1 hu with rfl | hu
  ·exact h1
  ·exact ih h2 u hu
theorem okL_app : ∀ (a b : List RT), okL (a ++ b) = (okL a && okL b)
 | [], b => by simp [okL]
 | t :: a, b => by simp [okL, okL_app a b, Bool.and_assoc]
theorem flatL_app : ∀ (a b : List RT), flatL (a ++ b) = flatL a ++ flatL b
 | [], b => by simp [flatL]
 | t :: a, b => by simp [flatL, flatL_app a b]
theorem flat_len (t : RT) : 1 ≤ (flat t).length := by cases t; simp [flat]
theorem flat_mk (x : Nd) (ks : List RT) : flat (.mk x ks) = x :: flatL ks := by rw [flat]
theorem flatL_cons (t : RT) (ts : List RT) : flatL (t :: ts) = flat t ++ flatL ts := by rw [flatL]

def endN : List Nd → Nat → Option (List Nd)
 | l, 0 => some l
 | [], _ + 1 => none
 | x :: l, w + 1 => if mayN x then endN l (w + x.n.toNat) else none
theorem endN_zero (l : List Nd) : endN l 0 = some l := by unfold endN; cases l <;> rfl
theorem endN_nil (w : Nat) : endN [] (w + 1) = none := by unfold endN; rfl
theorem endN_cons (x : Nd) (l : List Nd) (w : Nat) : endN (x :: l) (w + 1) = if mayN x then endN l (w + x.n.toNat) else none := by rw [endN]
mutual
theorem endN_flat : ∀ (t : RT) (r : List Nd) (w : Nat), okT t = true → endN (flat t ++ r) (w + 1) = endN r w
 | .mk x ks, r, w, h => by
  obtain ⟨h1, h2, h3⟩ := okT_mk h
  rw [flat_mk, List.cons_append, endN_cons, if_pos h1, h2, Int.toNat_natCast]
  exact endN_flatL ks r w h3
theorem endN_flatL : ∀ (ts : List RT) (r : List Nd) (w : Nat), okL ts = true → endN (flatL ts ++ r) (w + ts.length) = endN r w
 | [], r, w, h => by simp [flatL]
 | t :: ts, r, w, h => by
  obtain ⟨h1, h2⟩ := okL_cons h
  rw [flatL_cons, List.append_assoc, List.length_cons, ← Nat.add_assoc, endN_flat t _ _ h1, endN_flatL ts r w h2]
end
theorem endN_tree : ∀ (l : List Nd) (w : Nat) (r : List Nd), endN l w = some r → ∃ ts : List RT, ts.length = w ∧ okL ts = true ∧ l = flatL ts ++ r := by
 intro l
 induction l with
 | nil =>
  intro w r h
  cases w with
  | zero => rw [endN_zero] at h; simp only [Option.some.injEq] at h; exact ⟨[], rfl, rfl, by simp [flatL, h]⟩
  | succ w => rw [endN_nil] at h; simp at h
 | cons x l ih =>
  intro w r h
  cases w with
  | zero => rw [endN_zero] at h; simp only [Option.some.injEq] at h; exact ⟨[], rfl, rfl, by simp [flatL, h]⟩
  | succ w =>
   rw [endN_cons] at h
   split at h
   ·rename_i hm
    obtain ⟨ts, h1, h2, rfl⟩ := ih _ _ h
    have hk := mayN_kids hm
    refine ⟨.mk x (ts.take x.n.toNat) :: ts.drop x.n.toNat, by simp; omega, ?_, ?_⟩
    ·have h3 := okL_app (ts.take x.n.toNat) (ts.drop x.n.toNat)
     rw [List.take_append_drop, h2] at h3
     have h4 : okL (ts.take x.n.toNat) = true ∧ okL (ts.drop x.n.toNat) = true := by simpa using h3.symm
     have h5 : x.n = ((ts.take x.n.toNat).length : Int) := by rw [List.length_take]; omega
     unfold okL okT
     rw [hm, decide_eq_true h5, h4.1, h4.2]
     rfl
    ·rw [flatL_cons, flat_mk, List.cons_append, List.cons_append, List.append_assoc, ← List.append_assoc (flatL _), ← flatL_app, List.take_append_drop]
   ·simp at h
theorem endN_big : ∀ (l : List Nd) (w : Nat), l.length < w → endN l w = none
 | _, 0, h => by omega
 | [], w + 1, _ => endN_nil w
 | x :: l, w + 1, h => by
  rw [endN_cons]
  split
  ·exact endN_big l _ (by simp at h; omega)
  ·rfl
def wholeB (l : List Nd) : Bool := match endN l 1 with
 | some [] => true
 | _ => false
theorem whole_tree {l : List Nd} (h : wholeB l = true) : ∃ t, okT t = true ∧ l = flat t := by
 unfold wholeB at h
 split at h
 ·rename_i he
  obtain ⟨ts, h1, h2, h3⟩ := endN_tree _ _ _ he
  match ts, h1, h2, h3 with
  | [t], _, h2, h3 =>
   refine ⟨t, (okL_cons h2).1, ?_⟩
   rw [h3, flatL_cons]
   simp [flatL]
 ·simp at h
theorem tree_whole {t : RT} (h : okT t = true) : wholeB (flat t) = true := by
 unfold wholeB
 have := endN_flat t [] 0 h
 rw [List.append_nil, endN_zero] at this
 rw [this]
theorem okT_all {t : RT} (h : okT t = true) : ∀ x ∈ flat t, mayN x = true := by
 have key : ∀ (l : List Nd) (w : Nat) (r : List Nd), endN l w = some r → ∀ x ∈ l, x ∈ r ∨ mayN x = true := by
  intro l
  induction l with
  | nil => intro w r _ x hx; simp at hx
  | cons y l ih =>
   intro w r he x hx
   cases w with
   | zero => rw [endN_zero] at he; simp only [Option.some.injEq] at he; subst he; exact .inl hx
   | succ w =>
    rw [endN_cons] at he
    split at he
    ·rename_i hm
     rcases List.mem_cons.1 hx with rfl | hx
     ·exact .inr hm
     ·exact ih _ _ he x hx
    ·simp at he
 intro x hx
 have := endN_flat t [] 0 h
 rw [List.append_nil, endN_zero] at this
 rcases key _ _ _ this x hx with h | h
 ·simp at h
 ·exact h
theorem flatL_len : ∀ ts : List RT, ts.length ≤ (flatL ts).length
 | [] => by simp
 | t :: ts => by
  have := flatL_len ts
  have := flat_len t
  rw [flatL_cons]
  simp
  omega
mutual
theorem kids_leT : ∀ (t : RT), okT t = true → ∀ x ∈ flat t, x.n ≤ ((flat t).length : Int)
 | .mk y ks, h, x, hx => by
  obtain ⟨h1, h2, h3⟩ := okT_mk h
  have := flatL_len ks
  rw [flat_mk] at hx ⊢
  rw [List.length_cons]
  rcases List.mem_cons.1 hx with rfl | hx
  ·omega
  ·have := kids_leL ks h3 x hx; omega
theorem kids_leL : ∀ (ts : List RT), okL ts = true → ∀ x ∈ flatL ts, x.n ≤ ((flatL ts).length : Int)
 | [], _, x, hx => by simp [flatL] at hx
 | t :: ts, h, x, hx => by
  obtain ⟨h1, h2⟩ := okL_cons h
  rw [flatL_cons] at hx ⊢
  rw [List.length_append]
  rcases List.mem_append.1 hx with hx | hx
  ·have := kids_leT t h1 x hx; omega
  ·have := kids_leL ts h2 x hx; omega
end
end Go.Proofs.YtdgocjbakjamaaaGreat
end

section
set_option linter.unusedSectionVars false
/- Heights of trees, by a stack: plain Lean. -/

set_option linter.unusedSimpArgs false
set_option linter.unusedVariables false
namespace Go.Proofs.YtdgocjbakjamaaaGreat
open Go Go.Dm
variable [DMode]

mutual
def htT : RT → Nat
 | .mk _ ks => htL ks + 1
def htL : List RT → Nat
 | [] => 0
 | t :: ts => max (htT t) (htL ts)
end
theorem htT_mk (x : Nd) (ks : List RT) : htT (.mk x ks) = htL ks + 1 := by rw [htT]
theorem htL_cons (t : RT) (ts : List RT) : htL (t :: ts) = max (htT t) (htL ts) := by rw [htL]
theorem htL_nil : htL [] = 0 := by rw [htL]
def fin : List Nat → List Nat
 | [] => []
 | c :: s => if c = 1 then fin s else (c - 1) :: s
def hstep (p : List Nat × Nat) (x : Nd) : List Nat × Nat := (if x.n.toNat = 0 then fin p.1 else x.n.toNat :: p.1, max p.2 (p.1.length + 1))
mutual
theorem hfold_flat : ∀ (t : RT) (s : List Nat) (m : Nat), okT t = true → (flat t).foldl hstep (s, m) = (fin s, max m (s.length + htT t))
 | .mk x ks, s, m, h => by
  obtain ⟨h1, h2, h3⟩ := okT_mk h
  rw [flat_mk, List.foldl_cons, htT_mk]
  unfold hstep
  rw [h2, Int.toNat_natCast]
  cases ks with
  | nil => simp [flatL, htL_nil]
  | cons t ts =>
   have := hfold_flatL (t :: ts) s (max m (s.length + 1)) h3 (by simp)
   simp only [List.length_cons] at this ⊢
   rw [if_neg (by omega)]
   unfold hstep at this
   rw [this]
   congr 1
   omega
theorem hfold_flatL : ∀ (ts : List RT) (s : List Nat) (m : Nat), okL ts = true → ts ≠ [] → (flatL ts).foldl hstep (ts.length :: s, m) = (fin s, max m (s.length + 1 + htL ts))
 | [], s, m, h, hne => absurd rfl hne
 | [t], s, m, h, hne => by
  obtain ⟨h1, h2⟩ := okL_cons h
  have := hfold_flat t (1 :: s) m h1
  rw [flatL_cons, List.foldl_append]
  simp only [List.length_cons, List.length_nil, Nat.zero_add] at this ⊢
  rw [this, htL_cons, htL_nil]
  simp [flatL, fin]
 | t :: u :: r, s, m, h, hne => by
  obtain ⟨h1, h2⟩ := okL_cons h
  have h3 := hfold_flat t (((u :: r).length + 1) :: s) m h1
  have h4 := hfold_flatL (u :: r) s (max m (s.length + 1 + htT t)) h2 (by simp)
  rw [flatL_cons, List.foldl_append, List.length_cons, h3]
  have e : fin (((u :: r).length + 1) :: s) = (u :: r).length :: s := by
   simp only [fin]
   rw [if_neg (by simp)]
   simp
  rw [e]
  have e2 : max m ((((u :: r).length + 1) :: s).length + htT t) = max m (s.length + 1 + htT t) := by rw [List.length_cons]
  rw [e2, h4, htL_cons t]
  congr 1
  omega
end
theorem height_flat {t : RT} (h : okT t = true) : (flat t).foldl hstep ([], 0) = ([], htT t) := by
 rw [hfold_flat t [] 0 h]
 simp [fin]
def popR : List Nat → List Nat
 | [] => []
 | c :: s => if c = 0 then fin s else c :: s
def pos (s : List Nat) : Prop := ∀ c ∈ s, 1 ≤ c ∧ c ≤ 1310720
theorem popR_step {c : Nat} {s : List Nat} (h : 1 ≤ c) : popR ((c - 1) :: s) = fin (c :: s) := by
 rw [show popR ((c - 1) :: s) = if c - 1 = 0 then fin s else (c - 1) :: s from rfl, show fin (c :: s) = if c = 1 then fin s else (c - 1) :: s from rfl]
 by_cases h1 : c = 1
 ·rw [if_pos (by omega), if_pos h1]
 ·rw [if_neg (by omega), if_neg h1]
theorem fin_len : ∀ s : List Nat, (fin s).length ≤ s.length
 | [] => by simp [fin]
 | c :: s => by
  unfold fin
  split
  ·have := fin_len s; simp; omega
  ·simp
theorem fin_pos : ∀ {s : List Nat}, pos s → pos (fin s)
 | [], _ => by intro c hc; simp [fin] at hc
 | c :: s, h => by
  unfold fin
  split
  ·exact fin_pos fun d hd => h d (List.mem_cons_of_mem _ hd)
  ·intro d hd
   have hc := h c List.mem_cons_self
   rcases List.mem_cons.1 hd with rfl | hd
   ·omega
   ·exact h d (List.mem_cons_of_mem _ hd)
theorem hstep_len (p : List Nat × Nat) (x : Nd) : (hstep p x).1.length ≤ p.1.length + 1 := by
 unfold hstep
 simp only
 split
 ·have := fin_len p.1; omega
 ·simp
theorem hstep_pos {p : List Nat × Nat} (x : Nd) (hx : x.n.toNat ≤ 1310720) (h : pos p.1) : pos (hstep p x).1 := by
 unfold hstep
 simp only
 split
 ·exact fin_pos h
 ·intro d hd
  rcases List.mem_cons.1 hd with rfl | hd
  ·omega
  ·exact h d hd
theorem popR_push (c : Nat) (s : List Nat) : popR (c :: s) = if c = 0 then fin s else c :: s := rfl

def dstk (s : List Nat) : List (List DVal) := (s.map fun c : Nat => [DVal.int .i64 (c : Int)]).reverse
theorem dstk_len (s : List Nat) : (dstk s).length = s.length := by simp [dstk]
theorem dstk_cons (c : Nat) (s : List Nat) : dstk (c :: s) = dstk s ++ [[.int .i64 (c : Int)]] := by simp [dstk]
theorem dstk_nil : dstk [] = [] := rfl
@[simp] theorem mx_dstk (s : List Nat) : mxR (dstk s) = 0 := by
 unfold dstk
 exact Nat.le_zero.1 (mxR_le' fun d hd => by
  obtain ⟨c, _, rfl⟩ := List.mem_map.1 (List.mem_reverse.1 hd)
  simp [mxL, mx])
theorem dstk_top (c : Nat) (s : List Nat) : (dstk (c :: s))[s.length]? = some [.int .i64 (c : Int)] := by
 rw [dstk_cons, List.getElem?_append_right (by rw [dstk_len]; omega), dstk_len, Nat.sub_self]; rfl
theorem dstk_take (c : Nat) (s : List Nat) : (dstk (c :: s)).take s.length = dstk s := by
 rw [dstk_cons, List.take_append_of_le_length (by rw [dstk_len]; omega), List.take_of_length_le (by rw [dstk_len]; omega)]
theorem dstk_set (c d : Nat) (s : List Nat) : (dstk (c :: s)).set s.length [.int .i64 (d : Int)] = dstk (d :: s) := by
 rw [dstk_cons, dstk_cons, List.set_append_right _ _ (by rw [dstk_len]; omega), dstk_len, Nat.sub_self]; rfl
end Go.Proofs.YtdgocjbakjamaaaGreat
end

section
set_option linter.unusedSectionVars false
/- What begins a tree's words, what ends them, what follows: told by lists, and place by place. Plain Lean. -/

set_option linter.unusedSimpArgs false
set_option linter.unusedVariables false
namespace Go.Proofs.YtdgocjbakjamaaaGreat
open Go Go.Dm
variable [DMode]

mutual
def empT : RT → Bool
 | .mk x ks => if x.k = 2 ∨ x.k = 3 then false else if x.k = 5 then anyE ks else if x.k = 4 ∨ x.k = 7 then allE ks else true
def anyE : List RT → Bool
 | [] => false
 | t :: ts => empT t || anyE ts
def allE : List RT → Bool
 | [] => true
 | t :: ts => empT t && allE ts
end
theorem empT_mk (x : Nd) (ks : List RT) : empT (.mk x ks) = if x.k = 2 ∨ x.k = 3 then false else if x.k = 5 then anyE ks else if x.k = 4 ∨ x.k = 7 then allE ks else true := by rw [empT]
theorem anyE_any : ∀ ts : List RT, anyE ts = ts.any empT
 | [] => by rw [anyE]; rfl
 | t :: ts => by rw [anyE, anyE_any ts]; rfl
theorem allE_all : ∀ ts : List RT, allE ts = ts.all empT
 | [] => by rw [allE]; rfl
 | t :: ts => by rw [allE, allE_all ts]; rfl
theorem allE_cons (t : RT) (ts : List RT) : allE (t :: ts) = (empT t && allE ts) := by rw [allE]
theorem allE_nil : allE [] = true := by rw [allE]
theorem allE_snoc (ts : List RT) (t : RT) : allE (ts ++ [t]) = (allE ts && empT t) := by rw [allE_all, allE_all, List.all_append]; simp

def joinP (l f : List Nat) : List (Nat × Nat) := l.flatMap fun p => f.map fun q => (p, q)
theorem mem_joinP {l f : List Nat} {p q : Nat} : (p, q) ∈ joinP l f ↔ p ∈ l ∧ q ∈ f := by
 unfold joinP
 simp only [List.mem_flatMap, List.mem_map, _root_.Prod.mk.injEq]
 constructor
 ·rintro ⟨a, ha, b, hb, rfl, rfl⟩; exact ⟨ha, hb⟩
 ·rintro ⟨ha, hb⟩; exact ⟨p, ha, q, hb, rfl, rfl⟩
theorem joinP_nil (f : List Nat) : joinP [] f = [] := rfl

mutual
def fiT : RT → Nat → List Nat
 | .mk x ks, a => if x.k = 2 ∨ x.k = 3 then [a] else fiL x.k ks (a + 1)
def fiL (k : Int) : List RT → Nat → List Nat
 | [], _ => []
 | u :: us, a => fiT u a ++ (if k = 4 ∧ empT u = false then [] else fiL k us (a + (flat u).length))
end
mutual
def laT : RT → Nat → List Nat
 | .mk x ks, a => if x.k = 2 ∨ x.k = 3 then [a] else laL x.k ks (a + 1)
def laL (k : Int) : List RT → Nat → List Nat
 | [], _ => []
 | u :: us, a => if k = 4 then laL k us (a + (flat u).length) ++ (if allE us = true then laT u a else []) else laT u a ++ laL k us (a + (flat u).length)
end
mutual
def arT : RT → Nat → List (Nat × Nat)
 | .mk x ks, a => if x.k = 2 ∨ x.k = 3 then [] else arL x.k ks (a + 1) [] ++ (if x.k = 6 ∨ x.k = 7 then joinP (laL x.k ks (a + 1)) (fiL x.k ks (a + 1)) else [])
def arL (k : Int) : List RT → Nat → List Nat → List (Nat × Nat)
 | [], _, _ => []
 | u :: us, a, acc => arT u a ++ ((if k = 4 then joinP acc (fiT u a) else []) ++ arL k us (a + (flat u).length) (if k = 4 then laT u a ++ (if empT u = true then acc else []) else []))
end
theorem fiT_mk (x : Nd) (ks : List RT) (a : Nat) : fiT (.mk x ks) a = if x.k = 2 ∨ x.k = 3 then [a] else fiL x.k ks (a + 1) := by rw [fiT]
theorem fiL_nil (k : Int) (a : Nat) : fiL k [] a = [] := by rw [fiL]
theorem fiL_cons (k : Int) (u : RT) (us : List RT) (a : Nat) : fiL k (u :: us) a = fiT u a ++ (if k = 4 ∧ empT u = false then [] else fiL k us (a + (flat u).length)) := by rw [fiL]
theorem laT_mk (x : Nd) (ks : List RT) (a : Nat) : laT (.mk x ks) a = if x.k = 2 ∨ x.k = 3 then [a] else laL x.k ks (a + 1) := by rw [laT]
theorem laL_nil (k : Int) (a : Nat) : laL k [] a = [] := by rw [laL]
theorem laL_cons (k : Int) (u : RT) (us : List RT) (a : Nat) : laL k (u :: us) a = if k = 4 then laL k us (a + (flat u).length) ++ (if allE us = true then laT u a else []) else laT u a ++ laL k us (a + (flat u).length) := by rw [laL]
theorem arT_mk (x : Nd) (ks : List RT) (a : Nat) : arT (.mk x ks) a = if x.k = 2 ∨ x.k = 3 then [] else arL x.k ks (a + 1) [] ++ (if x.k = 6 ∨ x.k = 7 then joinP (laL x.k ks (a + 1)) (fiL x.k ks (a + 1)) else []) := by rw [arT]
theorem arL_nil (k : Int) (a : Nat) (acc : List Nat) : arL k [] a acc = [] := by rw [arL]
theorem arL_cons (k : Int) (u : RT) (us : List RT) (a : Nat) (acc : List Nat) : arL k (u :: us) a acc = arT u a ++ ((if k = 4 then joinP acc (fiT u a) else []) ++ arL k us (a + (flat u).length) (if k = 4 then laT u a ++ (if empT u = true then acc else []) else [])) := by rw [arL]
theorem flatL_nil : flatL [] = [] := by rw [flatL]

theorem fiL_snoc (k : Int) (u : RT) : ∀ (us : List RT) (a : Nat), fiL k (us ++ [u]) a = fiL k us a ++ (if k = 4 ∧ allE us = false then [] else fiT u (a + (flatL us).length))
 | [], a => by simp [fiL_nil, fiL_cons, allE_nil, flatL_nil]
 | v :: us, a => by
  rw [List.cons_append, fiL_cons, fiL_cons, fiL_snoc k u us, allE_cons, flatL_cons, List.length_append, ← Nat.add_assoc, List.append_assoc]
  by_cases h4 : k = 4 <;> cases hv : empT v <;> simp [h4]
theorem laL_snoc (k : Int) (u : RT) : ∀ (us : List RT) (a : Nat), laL k (us ++ [u]) a = if k = 4 then laT u (a + (flatL us).length) ++ (if empT u = true then laL k us a else []) else laL k us a ++ laT u (a + (flatL us).length)
 | [], a => by simp [laL_nil, laL_cons, allE_nil, flatL_nil]
 | v :: us, a => by
  rw [List.cons_append, laL_cons, laL_cons, laL_snoc k u us, allE_snoc, flatL_cons, List.length_append, ← Nat.add_assoc]
  by_cases h4 : k = 4
  ·cases hu : empT u <;> cases hs : allE us <;> simp [h4]
  ·simp [h4]
theorem arL_snoc4 (u : RT) : ∀ (us : List RT) (a : Nat) (acc : List Nat), arL 4 (us ++ [u]) a acc = arL 4 us a acc ++ (arT u (a + (flatL us).length) ++ joinP (laL 4 us a ++ (if allE us = true then acc else [])) (fiT u (a + (flatL us).length)))
 | [], a, acc => by simp [arL_nil, arL_cons, laL_nil, allE_nil, flatL_nil]
 | v :: us, a, acc => by
  rw [List.cons_append, arL_cons, arL_cons, arL_snoc4 u us, allE_cons, flatL_cons, List.length_append, ← Nat.add_assoc, laL_cons]
  cases hv : empT v <;> cases hs : allE us <;> simp [List.append_assoc]
theorem arL_snoc (k : Int) (h4 : ¬ k = 4) (u : RT) : ∀ (us : List RT) (a : Nat), arL k (us ++ [u]) a [] = arL k us a [] ++ arT u (a + (flatL us).length)
 | [], a => by simp [arL_nil, arL_cons, flatL_nil, h4]
 | v :: us, a => by
  rw [List.cons_append, arL_cons, arL_cons, flatL_cons, List.length_append, ← Nat.add_assoc]
  simp only [h4, if_false, List.nil_append]
  rw [arL_snoc k h4 u us, List.append_assoc]

-- where these lie
mutual
theorem fiT_in : ∀ (t : RT) (a q : Nat), q ∈ fiT t a → a ≤ q ∧ q < a + (flat t).length
 | .mk x ks, a, q, h => by
  rw [fiT_mk] at h
  rw [flat_mk, List.length_cons]
  split at h
  ·simp at h; omega
  ·have := fiL_in x.k ks (a + 1) q h; omega
theorem fiL_in (k : Int) : ∀ (us : List RT) (a q : Nat), q ∈ fiL k us a → a ≤ q ∧ q < a + (flatL us).length
 | [], a, q, h => by simp [fiL_nil] at h
 | u :: us, a, q, h => by
  rw [fiL_cons, List.mem_append] at h
  rw [flatL_cons, List.length_append]
  rcases h with h | h
  ·have := fiT_in u a q h; omega
  ·split at h
   ·simp at h
   ·have := fiL_in k us _ q h; omega
end
mutual
theorem laT_in : ∀ (t : RT) (a q : Nat), q ∈ laT t a → a ≤ q ∧ q < a + (flat t).length
 | .mk x ks, a, q, h => by
  rw [laT_mk] at h
  rw [flat_mk, List.length_cons]
  split at h
  ·simp at h; omega
  ·have := laL_in x.k ks (a + 1) q h; omega
theorem laL_in (k : Int) : ∀ (us : List RT) (a q : Nat), q ∈ laL k us a → a ≤ q ∧ q < a + (flatL us).length
 | [], a, q, h => by simp [laL_nil] at h
 | u :: us, a, q, h => by
  rw [laL_cons] at h
  rw [flatL_cons, List.length_append]
  have key : q ∈ laT u a ∨ q ∈ laL k us (a + (flat u).length) := by
   split at h
   ·rcases List.mem_append.1 h with h | h
    ·exact .inr h
    ·split at h
     ·exact .inl h
     ·simp at h
   ·exact List.mem_append.1 h
  rcases key with h | h
  ·have := laT_in u a q h; omega
  ·have := laL_in k us _ q h; omega
end
mutual
theorem arT_in : ∀ (t : RT) (a p q : Nat), (p, q) ∈ arT t a → (a ≤ p ∧ p < a + (flat t).length) ∧ (a ≤ q ∧ q < a + (flat t).length)
 | .mk x ks, a, p, q, h => by
  rw [arT_mk] at h
  rw [flat_mk, List.length_cons]
  split at h
  ·simp at h
  ·rcases List.mem_append.1 h with h | h
   ·rcases arL_in x.k ks (a + 1) [] p q h with ⟨h1 | h1, h2⟩
    ·omega
    ·simp at h1
   ·split at h
    ·obtain ⟨h1, h2⟩ := mem_joinP.1 h
     have := laL_in x.k ks _ p h1
     have := fiL_in x.k ks _ q h2
     omega
    ·simp at h
theorem arL_in (k : Int) : ∀ (us : List RT) (a : Nat) (acc : List Nat) (p q : Nat), (p, q) ∈ arL k us a acc → ((a ≤ p ∧ p < a + (flatL us).length) ∨ p ∈ acc) ∧ (a ≤ q ∧ q < a + (flatL us).length)
 | [], a, acc, p, q, h => by simp [arL_nil] at h
 | u :: us, a, acc, p, q, h => by
  rw [arL_cons] at h
  rw [flatL_cons, List.length_append]
  simp only [List.mem_append] at h
  rcases h with h | h | h
  ·have := arT_in u a p q h; omega
  ·split at h
   ·obtain ⟨h1, h2⟩ := mem_joinP.1 h
    have := fiT_in u a q h2
    exact ⟨.inr h1, by omega⟩
   ·simp at h
  ·obtain ⟨h1, h2⟩ := arL_in k us _ _ p q h
   refine ⟨?_, by omega⟩
   rcases h1 with h1 | h1
   ·left; omega
   ·split at h1
    ·rcases List.mem_append.1 h1 with h1 | h1
     ·have := laT_in u a p h1; left; omega
     ·split at h1
      ·exact .inr h1
      ·simp at h1
    ·simp at h1
end

def inB (u : RT) (a p : Nat) : Bool := decide (a ≤ p) && decide (p < a + (flat u).length)
theorem inB_iff {u : RT} {a p : Nat} : inB u a p = true ↔ a ≤ p ∧ p < a + (flat u).length := by unfold inB; simp
theorem inB_f {u : RT} {a p : Nat} (h : p < a ∨ a + (flat u).length ≤ p) : inB u a p = false := by
 rw [Bool.eq_false_iff]; intro hh; rw [inB_iff] at hh; omega
mutual
def bgT : RT → Nat → Nat → Bool
 | .mk x ks, a, p => decide (a = p) || bgL x.k ks (a + 1) p
def bgL (k : Int) : List RT → Nat → Nat → Bool
 | [], _, _ => false
 | u :: us, a, p => (inB u a p && bgT u a p) || (if k = 4 ∧ empT u = false then false else bgL k us (a + (flat u).length) p)
end
mutual
def enT : RT → Nat → Nat → Bool
 | .mk x ks, a, p => decide (a = p) || enL x.k ks (a + 1) p
def enL (k : Int) : List RT → Nat → Nat → Bool
 | [], _, _ => false
 | u :: us, a, p => enL k us (a + (flat u).length) p || ((!decide (k = 4) || allE us) && (inB u a p && enT u a p))
end
def afL : List RT → Nat → Nat → Bool
 | [], _, _ => false
 | u :: us, a, q => if inB u a q then bgT u a q else if empT u then afL us (a + (flat u).length) q else false
def irL : List RT → Nat → Nat → Nat → Bool
 | [], _, _, _ => false
 | u :: us, a, p, q => if inB u a p then enT u a p && afL us (a + (flat u).length) q else irL us (a + (flat u).length) p q
def hdL : List RT → Nat → Nat → Nat → Bool
 | [], _, _, _ => false
 | u :: _, a, p, q => enT u a p && bgT u a q
mutual
def foT : RT → Nat → Nat → Nat → Bool
 | .mk x ks, a, p, q => if (decide (x.k = 6) || decide (x.k = 7)) && hdL ks (a + 1) p q then true else match foL ks (a + 1) p q with
  | some b => b
  | none => decide (x.k = 4) && irL ks (a + 1) p q
def foL : List RT → Nat → Nat → Nat → Option Bool
 | [], _, _, _ => none
 | u :: us, a, p, q => if inB u a p && inB u a q then some (foT u a p q) else foL us (a + (flat u).length) p q
end
theorem bgT_mk (x : Nd) (ks : List RT) (a p : Nat) : bgT (.mk x ks) a p = (decide (a = p) || bgL x.k ks (a + 1) p) := by rw [bgT]
theorem bgL_nil (k : Int) (a p : Nat) : bgL k [] a p = false := by rw [bgL]
theorem bgL_cons (k : Int) (u : RT) (us : List RT) (a p : Nat) : bgL k (u :: us) a p = ((inB u a p && bgT u a p) || (if k = 4 ∧ empT u = false then false else bgL k us (a + (flat u).length) p)) := by rw [bgL]
theorem enT_mk (x : Nd) (ks : List RT) (a p : Nat) : enT (.mk x ks) a p = (decide (a = p) || enL x.k ks (a + 1) p) := by rw [enT]
theorem enL_nil (k : Int) (a p : Nat) : enL k [] a p = false := by rw [enL]
theorem enL_cons (k : Int) (u : RT) (us : List RT) (a p : Nat) : enL k (u :: us) a p = (enL k us (a + (flat u).length) p || ((!decide (k = 4) || allE us) && (inB u a p && enT u a p))) := by rw [enL]
theorem foT_mk (x : Nd) (ks : List RT) (a p q : Nat) : foT (.mk x ks) a p q = if (decide (x.k = 6) || decide (x.k = 7)) && hdL ks (a + 1) p q then true else match foL ks (a + 1) p q with
 | some b => b
 | none => decide (x.k = 4) && irL ks (a + 1) p q := by rw [foT]
theorem foL_nil (a p q : Nat) : foL [] a p q = none := by rw [foL]
theorem foL_cons (u : RT) (us : List RT) (a p q : Nat) : foL (u :: us) a p q = if inB u a p && inB u a q then some (foT u a p q) else foL us (a + (flat u).length) p q := by rw [foL]

theorem afL_low : ∀ (us : List RT) (a q : Nat), q < a → afL us a q = false
 | [], _, _, _ => rfl
 | u :: us, a, q, h => by
  rw [afL, inB_f (.inl h)]
  simp only [Bool.false_eq_true, if_false]
  rw [afL_low us _ q (by omega)]
  simp
theorem irL_low : ∀ (us : List RT) (a p q : Nat), p < a ∨ q < a → irL us a p q = false
 | [], _, _, _, _ => rfl
 | u :: us, a, p, q, h => by
  rw [irL]
  split
  ·rename_i hp
   rw [inB_iff] at hp
   rw [afL_low us _ q (by omega), Bool.and_false]
  ·exact irL_low us _ p q (by omega)
theorem foL_low : ∀ (us : List RT) (a p q : Nat), p < a ∨ q < a → foL us a p q = none
 | [], _, _, _, _ => by rw [foL_nil]
 | u :: us, a, p, q, h => by
  rw [foL_cons, if_neg]
  ·exact foL_low us _ p q (by omega)
  ·intro hh
   rw [Bool.and_eq_true, inB_iff, inB_iff] at hh
   omega

def Lf (l : List Nd) (a p : Nat) : Prop := ∀ x, a ≤ p → l[p - a]? = some x → x.k = 2 ∨ x.k = 3
theorem Lf.left {l m : List Nd} {a p : Nat} (h : Lf (l ++ m) a p) : Lf l a p := fun x h1 h2 => h x h1 (by
 rw [List.getElem?_append_left (List.getElem?_eq_some_iff.1 h2).1]; exact h2)
theorem Lf.right {l m : List Nd} {a p : Nat} (h : Lf (l ++ m) a p) : Lf m (a + l.length) p := fun x h1 h2 => h x (by omega) (by
 rw [List.getElem?_append_right (by omega), Nat.sub_sub]; exact h2)
theorem Lf.kids {x : Nd} {ks : List RT} {a p : Nat} (h : Lf (flat (.mk x ks)) a p) : Lf (flatL ks) (a + 1) p := fun y h1 h2 => h y (by omega) (by
 rw [flat_mk, show p - a = (p - (a + 1)) + 1 by omega, List.getElem?_cons_succ]; exact h2)
theorem Lf.head {x : Nd} {ks : List RT} {a p : Nat} (h : Lf (flat (.mk x ks)) a p) (hx : ¬ (x.k = 2 ∨ x.k = 3)) : a ≠ p := fun e => hx (h x (by omega) (by rw [flat_mk, show p - a = 0 by omega]; rfl))
theorem leaf_nil {x : Nd} {ks : List RT} (h : okT (.mk x ks) = true) (hx : x.k = 2 ∨ x.k = 3) : ks = [] := by
 obtain ⟨h1, h2, _⟩ := okT_mk h
 unfold mayN at h1
 have h0 : x.n = 0 := by
  rcases hx with hx | hx
  ·rw [if_neg (by omega), if_pos hx] at h1; simp only [Bool.and_eq_true, decide_eq_true_eq] at h1; exact h1.1
  ·rw [if_neg (by omega), if_neg (by omega), if_pos hx] at h1; simp only [Bool.and_eq_true, decide_eq_true_eq] at h1; exact h1.1
 exact List.eq_nil_of_length_eq_zero (by omega)
theorem one_kid {x : Nd} {ks : List RT} (h : okT (.mk x ks) = true) (hx : x.k = 6 ∨ x.k = 7 ∨ x.k = 8) : ∃ u, ks = [u] := by
 obtain ⟨h1, h2, _⟩ := okT_mk h
 unfold mayN at h1
 have h0 : x.n = 1 := by
  rcases hx with hx | hx | hx <;> simp [hx] at h1 <;> exact h1.2
 exact List.length_eq_one_iff.1 (by omega)

mutual
theorem bg_iff : ∀ (t : RT) (a p : Nat), okT t = true → Lf (flat t) a p → (p ∈ fiT t a ↔ bgT t a p = true)
 | .mk x ks, a, p, ok, hl => by
  rw [fiT_mk, bgT_mk]
  by_cases hx : x.k = 2 ∨ x.k = 3
  ·rw [if_pos hx, leaf_nil ok hx, bgL_nil]
   simp only [List.mem_singleton, Bool.or_false, decide_eq_true_eq]
   exact eq_comm
  ·have hne := hl.head hx
   rw [if_neg hx, decide_eq_false hne, Bool.false_or]
   exact bgL_iff x.k ks (a + 1) p (okT_mk ok).2.2 hl.kids
theorem bgL_iff (k : Int) : ∀ (us : List RT) (a p : Nat), okL us = true → Lf (flatL us) a p → (p ∈ fiL k us a ↔ bgL k us a p = true)
 | [], a, p, _, _ => by simp [fiL_nil, bgL_nil]
 | u :: us, a, p, ok, hl => by
  obtain ⟨ok1, ok2⟩ := okL_cons ok
  rw [flatL_cons] at hl
  have i1 := bg_iff u a p ok1 hl.left
  have i2 := bgL_iff k us _ p ok2 hl.right
  rw [fiL_cons, bgL_cons, List.mem_append, Bool.or_eq_true, Bool.and_eq_true]
  have e1 : p ∈ fiT u a ↔ (inB u a p = true ∧ bgT u a p = true) := by
   rw [← i1]
   exact ⟨fun h => ⟨inB_iff.2 (fiT_in u a p h), h⟩, fun h => h.2⟩
  rw [e1]
  by_cases hc : k = 4 ∧ empT u = false
  ·rw [if_pos hc, if_pos hc]; simp
  ·rw [if_neg hc, if_neg hc, i2]
end
mutual
theorem en_iff : ∀ (t : RT) (a p : Nat), okT t = true → Lf (flat t) a p → (p ∈ laT t a ↔ enT t a p = true)
 | .mk x ks, a, p, ok, hl => by
  rw [laT_mk, enT_mk]
  by_cases hx : x.k = 2 ∨ x.k = 3
  ·rw [if_pos hx, leaf_nil ok hx, enL_nil]
   simp only [List.mem_singleton, Bool.or_false, decide_eq_true_eq]
   exact eq_comm
  ·have hne := hl.head hx
   rw [if_neg hx, decide_eq_false hne, Bool.false_or]
   exact enL_iff x.k ks (a + 1) p (okT_mk ok).2.2 hl.kids
theorem enL_iff (k : Int) : ∀ (us : List RT) (a p : Nat), okL us = true → Lf (flatL us) a p → (p ∈ laL k us a ↔ enL k us a p = true)
 | [], a, p, _, _ => by simp [laL_nil, enL_nil]
 | u :: us, a, p, ok, hl => by
  obtain ⟨ok1, ok2⟩ := okL_cons ok
  rw [flatL_cons] at hl
  have i1 := en_iff u a p ok1 hl.left
  have i2 := enL_iff k us _ p ok2 hl.right
  rw [laL_cons, enL_cons, Bool.or_eq_true, Bool.and_eq_true, Bool.and_eq_true, ← i2]
  have e1 : p ∈ laT u a ↔ (inB u a p = true ∧ enT u a p = true) := by
   rw [← i1]
   exact ⟨fun h => ⟨inB_iff.2 (laT_in u a p h), h⟩, fun h => h.2⟩
  rw [← e1]
  by_cases h4 : k = 4
  ·rw [if_pos h4, List.mem_append]
   cases hs : allE us <;> simp [h4]
  ·rw [if_neg h4, List.mem_append]
   simp only [h4, decide_false, Bool.not_false, Bool.true_or, true_and]
   exact or_comm
end

mutual
theorem fo_iff : ∀ (t : RT) (a p q : Nat), okT t = true → Lf (flat t) a p → Lf (flat t) a q → ((p, q) ∈ arT t a ↔ foT t a p q = true)
 | .mk x ks, a, p, q, ok, hp, hq => by
  rw [arT_mk, foT_mk]
  obtain ⟨_, _, ok2⟩ := okT_mk ok
  by_cases hx : x.k = 2 ∨ x.k = 3
  ·rw [if_pos hx, leaf_nil ok hx, foL_nil, decide_eq_false (by omega), decide_eq_false (by omega), decide_eq_false (by omega)]
   simp
  ·rw [if_neg hx, List.mem_append]
   have hL := foL_iff x.k ks (a + 1) [] p q ok2 hp.kids hq.kids (by simp)
   simp only [List.not_mem_nil, false_and, or_false] at hL
   rw [hL]
   by_cases h67 : x.k = 6 ∨ x.k = 7
   ·rw [if_pos h67, mem_joinP]
    have h4 : ¬ x.k = 4 := by omega
    have hk : x.k = 6 ∨ x.k = 7 ∨ x.k = 8 := by omega
    obtain ⟨u, rfl⟩ := one_kid ok hk
    rw [enL_iff x.k [u] (a + 1) p ok2 hp.kids, bgL_iff x.k [u] (a + 1) q ok2 hq.kids]
    have h1 : enL x.k [u] (a + 1) p = (inB u (a + 1) p && enT u (a + 1) p) := by rw [enL_cons, enL_nil, allE_nil]; simp
    have h2 : bgL x.k [u] (a + 1) q = (inB u (a + 1) q && bgT u (a + 1) q) := by rw [bgL_cons, bgL_nil]; simp
    have h3 : hdL [u] (a + 1) p q = (enT u (a + 1) p && bgT u (a + 1) q) := rfl
    have i1 : enT u (a + 1) p = true → inB u (a + 1) p = true := fun h => inB_iff.2 (laT_in u _ p ((en_iff u (a + 1) p (okL_cons ok2).1 (by have := hp.kids; rw [flatL_cons, flatL_nil, List.append_nil] at this; exact this)).2 h))
    have i2 : bgT u (a + 1) q = true → inB u (a + 1) q = true := fun h => inB_iff.2 (fiT_in u _ q ((bg_iff u (a + 1) q (okL_cons ok2).1 (by have := hq.kids; rw [flatL_cons, flatL_nil, List.append_nil] at this; exact this)).2 h))
    have e67 : (decide (x.k = 6) || decide (x.k = 7)) = true := by simpa using h67
    rw [h1, h2, h3, e67, Bool.true_and]
    simp only [h4, decide_false, Bool.false_and, false_and, or_false, Bool.and_eq_true]
    by_cases hh : enT u (a + 1) p = true ∧ bgT u (a + 1) q = true
    ·rw [if_pos hh]
     simp only [iff_true]
     exact .inr ⟨⟨i1 hh.1, hh.1⟩, i2 hh.2, hh.2⟩
    ·rw [if_neg hh]
     cases hf : foL [u] (a + 1) p q with
     | none =>
      simp only [reduceCtorEq, false_or]
      exact ⟨fun h => absurd ⟨h.1.2, h.2.2⟩ hh, fun h => by simp at h⟩
     | some b =>
      simp only [Option.some.injEq]
      exact ⟨fun h => by rcases h with h | h; exact h; exact absurd ⟨h.1.2, h.2.2⟩ hh, fun h => .inl h⟩
   ·have e67 : (decide (x.k = 6) || decide (x.k = 7)) = false := by rw [Bool.eq_false_iff]; simpa using h67
    rw [if_neg h67, e67, Bool.false_and]
    simp only [Bool.false_eq_true, if_false, List.not_mem_nil, or_false]
    cases hf : foL ks (a + 1) p q with
    | none => simp
    | some b => simp
theorem foL_iff (k : Int) : ∀ (us : List RT) (a : Nat) (acc : List Nat) (p q : Nat), okL us = true → Lf (flatL us) a p → Lf (flatL us) a q → (∀ r ∈ acc, r < a) →
  ((p, q) ∈ arL k us a acc ↔ (foL us a p q = some true ∨ (k = 4 ∧ foL us a p q = none ∧ (irL us a p q = true ∨ (p ∈ acc ∧ afL us a q = true)))))
 | [], a, acc, p, q, _, _, _, _ => by simp [arL_nil, foL_nil, irL, afL]
 | u :: us, a, acc, p, q, ok, hp, hq, hacc => by
  obtain ⟨ok1, ok2⟩ := okL_cons ok
  rw [flatL_cons] at hp hq
  have iT := fo_iff u a p q ok1 hp.left hq.left
  have ib := bg_iff u a q ok1 hq.left
  have ie := en_iff u a p ok1 hp.left
  have rT := arT_in u a p q
  have rf := fiT_in u a q
  have rl := laT_in u a p
  have racc : p ∈ acc → p < a := hacc p
  obtain ⟨a', ha'⟩ : ∃ a', a' = a + (flat u).length := ⟨_, rfl⟩
  obtain ⟨acc', hacc'⟩ : ∃ acc', acc' = (if k = 4 then laT u a ++ (if empT u = true then acc else []) else []) := ⟨_, rfl⟩
  have hlt : ∀ r ∈ acc', r < a' := by
   intro r hr
   rw [hacc'] at hr
   split at hr
   ·rcases List.mem_append.1 hr with hr | hr
    ·have := laT_in u a r hr; omega
    ·split at hr
     ·have := hacc r hr; omega
     ·simp at hr
   ·simp at hr
  have iL := foL_iff k us a' acc' p q ok2 (ha' ▸ hp.right) (ha' ▸ hq.right) hlt
  have macc : k = 4 → (p ∈ acc' ↔ p ∈ laT u a ∨ (empT u = true ∧ p ∈ acc)) := by
   intro h4
   rw [hacc', if_pos h4, List.mem_append]
   cases empT u <;> simp
  rw [arL_cons, foL_cons, irL, afL, ← ha', ← hacc', List.mem_append, List.mem_append, iL, iT]
  have mj : (p, q) ∈ (if k = 4 then joinP acc (fiT u a) else []) ↔ k = 4 ∧ p ∈ acc ∧ q ∈ fiT u a := by
   by_cases h4 : k = 4 <;> simp [h4, mem_joinP]
  rw [mj]
  clear hp hq hacc hlt iL mj hacc'
  by_cases bp : inB u a p = true
  ·have bp' := inB_iff.1 bp
   have hna : ¬ p ∈ acc := fun h => by have := racc h; omega
   by_cases bq : inB u a q = true
   ·have bq' := inB_iff.1 bq
    rw [bp, bq, foL_low us a' p q (by omega), irL_low us a' p q (by omega), afL_low us a' q (by omega)]
    simp [hna]
   ·have bq' : ¬ (a ≤ q ∧ q < a + (flat u).length) := fun h => bq (inB_iff.2 h)
    have hnT : ¬ foT u a p q = true := fun h => bq' (rT (iT.2 h)).2
    rw [Bool.not_eq_true] at bq
    rw [bp, bq, foL_low us a' p q (by omega), irL_low us a' p q (by omega)]
    simp only [hnT, hna, Bool.and_false, Bool.false_eq_true, if_false, if_true, false_and, and_false, false_or, or_false, reduceCtorEq, true_and, Bool.and_eq_true]
    constructor
    ·rintro ⟨h4, h1, h2⟩
     rw [macc h4] at h1
     rcases h1 with h1 | h1
     ·exact ⟨h4, ie.1 h1, h2⟩
     ·exact absurd h1.2 hna
    ·rintro ⟨h4, h1, h2⟩
     exact ⟨h4, (macc h4).2 (.inl (ie.2 h1)), h2⟩
  ·have bp' : ¬ (a ≤ p ∧ p < a + (flat u).length) := fun h => bp (inB_iff.2 h)
   have hnT : ¬ foT u a p q = true := fun h => bp' (rT (iT.2 h)).1
   have hnl : ¬ p ∈ laT u a := fun h => bp' (rl h)
   rw [Bool.not_eq_true] at bp
   by_cases bq : inB u a q = true
   ·have bq' := inB_iff.1 bq
    rw [bp, bq, foL_low us a' p q (by omega), irL_low us a' p q (by omega), afL_low us a' q (by omega)]
    simp only [hnT, Bool.false_and, Bool.false_eq_true, if_false, if_true, false_and, and_false, false_or, or_false, reduceCtorEq, true_and]
    rw [ib]
   ·have bq' : ¬ (a ≤ q ∧ q < a + (flat u).length) := fun h => bq (inB_iff.2 h)
    have hnf : ¬ q ∈ fiT u a := fun h => bq' (rf h)
    rw [Bool.not_eq_true] at bq
    rw [bp, bq]
    simp only [hnT, hnf, Bool.false_and, Bool.false_eq_true, if_false, and_false, false_or]
    by_cases h4 : k = 4
    ·rw [macc h4]
     cases empT u <;> simp [hnl]
    ·simp [h4]
end

mutual
theorem la_nodup : ∀ (t : RT) (a : Nat), (laT t a).Nodup
 | .mk x ks, a => by
  rw [laT_mk]
  split
  ·simp
  ·exact laL_nodup x.k ks (a + 1)
theorem laL_nodup (k : Int) : ∀ (us : List RT) (a : Nat), (laL k us a).Nodup
 | [], a => by rw [laL_nil]; simp
 | u :: us, a => by
  have h1 := la_nodup u a
  have h2 := laL_nodup k us (a + (flat u).length)
  rw [laL_cons]
  split
  ·refine List.nodup_append.2 ⟨h2, ?_, ?_⟩
   ·split
    ·exact h1
    ·simp
   ·rintro x hx y hy rfl
    split at hy
    ·have := laL_in k us _ x hx
     have := laT_in u a x hy
     omega
    ·simp at hy
  ·refine List.nodup_append.2 ⟨h1, h2, ?_⟩
   rintro x hx y hy rfl
   have := laL_in k us _ x hy
   have := laT_in u a x hx
   omega
end

-- what begins and ends are occurrences
mutual
theorem fiT_leaf : ∀ (t : RT) (a q : Nat), q ∈ fiT t a → ∃ x, (flat t)[q - a]? = some x ∧ (x.k = 2 ∨ x.k = 3)
 | .mk x ks, a, q, h => by
  rw [fiT_mk] at h
  split at h
  ·rename_i hx
   simp at h
   subst h
   exact ⟨x, by rw [flat_mk, Nat.sub_self]; rfl, hx⟩
  ·have h1 := fiL_in x.k ks _ q h
   obtain ⟨y, hy, hk⟩ := fiL_leaf x.k ks _ q h
   refine ⟨y, ?_, hk⟩
   rw [flat_mk, show q - a = (q - (a + 1)) + 1 by omega, List.getElem?_cons_succ]
   exact hy
theorem fiL_leaf (k : Int) : ∀ (us : List RT) (a q : Nat), q ∈ fiL k us a → ∃ x, (flatL us)[q - a]? = some x ∧ (x.k = 2 ∨ x.k = 3)
 | [], a, q, h => by simp [fiL_nil] at h
 | u :: us, a, q, h => by
  rw [fiL_cons, List.mem_append] at h
  rw [flatL_cons]
  rcases h with h | h
  ·have h1 := fiT_in u a q h
   obtain ⟨y, hy, hk⟩ := fiT_leaf u a q h
   exact ⟨y, by rw [List.getElem?_append_left (by omega)]; exact hy, hk⟩
  ·split at h
   ·simp at h
   ·have h1 := fiL_in k us _ q h
    obtain ⟨y, hy, hk⟩ := fiL_leaf k us _ q h
    exact ⟨y, by rw [List.getElem?_append_right (by omega), Nat.sub_sub]; exact hy, hk⟩
end
mutual
theorem laT_leaf : ∀ (t : RT) (a q : Nat), q ∈ laT t a → ∃ x, (flat t)[q - a]? = some x ∧ (x.k = 2 ∨ x.k = 3)
 | .mk x ks, a, q, h => by
  rw [laT_mk] at h
  split at h
  ·rename_i hx
   simp at h
   subst h
   exact ⟨x, by rw [flat_mk, Nat.sub_self]; rfl, hx⟩
  ·have h1 := laL_in x.k ks _ q h
   obtain ⟨y, hy, hk⟩ := laL_leaf x.k ks _ q h
   refine ⟨y, ?_, hk⟩
   rw [flat_mk, show q - a = (q - (a + 1)) + 1 by omega, List.getElem?_cons_succ]
   exact hy
theorem laL_leaf (k : Int) : ∀ (us : List RT) (a q : Nat), q ∈ laL k us a → ∃ x, (flatL us)[q - a]? = some x ∧ (x.k = 2 ∨ x.k = 3)
 | [], a, q, h => by simp [laL_nil] at h
 | u :: us, a, q, h => by
  rw [laL_cons] at h
  rw [flatL_cons]
  have key : q ∈ laT u a ∨ q ∈ laL k us (a + (flat u).length) := by
   split at h
   ·rcases List.mem_append.1 h with h | h
    ·exact .inr h
    ·split at h
     ·exact .inl h
     ·simp at h
   ·exact List.mem_append.1 h
  rcases key with h | h
  ·have h1 := laT_in u a q h
   obtain ⟨y, hy, hk⟩ := laT_leaf u a q h
   exact ⟨y, by rw [List.getElem?_append_left (by omega)]; exact hy, hk⟩
  ·have h1 := laL_in k us _ q h
   obtain ⟨y, hy, hk⟩ := laL_leaf k us _ q h
   exact ⟨y, by rw [List.getElem?_append_right (by omega), Nat.sub_sub]; exact hy, hk⟩
end
mutual
theorem arT_leaf : ∀ (t : RT) (a p q : Nat), (p, q) ∈ arT t a → (∃ x, (flat t)[p - a]? = some x ∧ (x.k = 2 ∨ x.k = 3)) ∧ (∃ x, (flat t)[q - a]? = some x ∧ (x.k = 2 ∨ x.k = 3))
 | .mk x ks, a, p, q, h => by
  rw [arT_mk] at h
  have lift : ∀ r, a + 1 ≤ r → (∃ x, (flatL ks)[r - (a + 1)]? = some x ∧ (x.k = 2 ∨ x.k = 3)) → ∃ y, (flat (.mk x ks))[r - a]? = some y ∧ (y.k = 2 ∨ y.k = 3) := by
   rintro r hr ⟨y, hy, hk⟩
   refine ⟨y, ?_, hk⟩
   rw [flat_mk, show r - a = (r - (a + 1)) + 1 by omega, List.getElem?_cons_succ]
   exact hy
  split at h
  ·simp at h
  ·rcases List.mem_append.1 h with h | h
   ·have h1 := arL_in x.k ks _ [] p q h
    obtain ⟨h2, h3⟩ := arL_leaf x.k ks _ [] p q h
    simp only [List.not_mem_nil, or_false] at h1 h2
    exact ⟨lift p h1.1.1 h2, lift q h1.2.1 h3⟩
   ·split at h
    ·obtain ⟨h1, h2⟩ := mem_joinP.1 h
     exact ⟨lift p (laL_in x.k ks _ p h1).1 (laL_leaf x.k ks _ p h1), lift q (fiL_in x.k ks _ q h2).1 (fiL_leaf x.k ks _ q h2)⟩
    ·simp at h
theorem arL_leaf (k : Int) : ∀ (us : List RT) (a : Nat) (acc : List Nat) (p q : Nat), (p, q) ∈ arL k us a acc → ((∃ x, (flatL us)[p - a]? = some x ∧ (x.k = 2 ∨ x.k = 3)) ∨ p ∈ acc) ∧ (∃ x, (flatL us)[q - a]? = some x ∧ (x.k = 2 ∨ x.k = 3))
 | [], a, acc, p, q, h => by simp [arL_nil] at h
 | u :: us, a, acc, p, q, h => by
  rw [arL_cons] at h
  rw [flatL_cons]
  have l1 : ∀ r, a ≤ r ∧ r < a + (flat u).length → (∃ x, (flat u)[r - a]? = some x ∧ (x.k = 2 ∨ x.k = 3)) → ∃ y, (flat u ++ flatL us)[r - a]? = some y ∧ (y.k = 2 ∨ y.k = 3) := by
   rintro r hr ⟨y, hy, hk⟩
   exact ⟨y, by rw [List.getElem?_append_left (by omega)]; exact hy, hk⟩
  have l2 : ∀ r, a + (flat u).length ≤ r → (∃ x, (flatL us)[r - (a + (flat u).length)]? = some x ∧ (x.k = 2 ∨ x.k = 3)) → ∃ y, (flat u ++ flatL us)[r - a]? = some y ∧ (y.k = 2 ∨ y.k = 3) := by
   rintro r hr ⟨y, hy, hk⟩
   exact ⟨y, by rw [List.getElem?_append_right (by omega), Nat.sub_sub]; exact hy, hk⟩
  simp only [List.mem_append] at h
  rcases h with h | h | h
  ·have h1 := arT_in u a p q h
   obtain ⟨h2, h3⟩ := arT_leaf u a p q h
   exact ⟨.inl (l1 p h1.1 h2), l1 q h1.2 h3⟩
  ·split at h
   ·obtain ⟨h1, h2⟩ := mem_joinP.1 h
    exact ⟨.inr h1, l1 q (fiT_in u a q h2) (fiT_leaf u a q h2)⟩
   ·simp at h
  ·obtain ⟨h1, h2⟩ := arL_in k us _ _ p q h
   obtain ⟨h3, h4⟩ := arL_leaf k us _ _ p q h
   refine ⟨?_, l2 q h2.1 h4⟩
   by_cases hacc : p ∈ acc
   ·exact .inr hacc
   left
   have h5 : ∀ {c : List Nat}, p ∈ (if k = 4 then laT u a ++ (if empT u = true then acc else []) else []) → p ∈ laT u a := by
    intro _ h
    split at h
    ·rcases List.mem_append.1 h with h | h
     ·exact h
     ·split at h
      ·exact absurd h hacc
      ·simp at h
    ·simp at h
   by_cases hla : p ∈ laT u a
   ·exact l1 p (laT_in u a p hla) (laT_leaf u a p hla)
   ·rcases h1 with h1 | h1
    ·rcases h3 with h3 | h3
     ·exact l2 p h1.1 h3
     ·exact absurd (h5 (c := []) h3) hla
    ·exact absurd (h5 (c := []) h1) hla
end
end Go.Proofs.YtdgocjbakjamaaaGreat
end

section
set_option linter.unusedSectionVars false
/- regular expressions as lists: may, whole, Height -/


set_option linter.unusedSimpArgs false
set_option linter.unusedVariables false
namespace Go.Proofs.YtdgocjbakjamaaaGreat
open Go Go.Dm
variable [DMode]
attribute [local irreducible] DW callP callS
set_option maxRecDepth 100000

theorem size_e : (⟨#[]⟩ : ByteArray).size = 0 := rfl
def anRX1205 : Ann := ⟨[], []⟩
set_option maxHeartbeats 4000000 in
theorem mayN_pure (x : Nd) : DPure Tryz.prog 205 [.agg (dNd x)] (.bool (mayN x)) := by
 refine DPure_introF [] (fn := Tryz.f205) Tryz.func205 rfl Tryz.call205 (by simp [Tryz.ntmps205]) (by simp [mx]) ?_
 intro hwf B hnt
 simp only [Tryz.ntmps205] at hnt
 have hA := an_is anRX1205 Tryz.mixed (aj2 @anRX1205.eq_1 Tryz.results205)
 simp only [argS]
 have e1 := named196_pure 264 upI upper197_pure x.s
 have e2 := named196_pure 265 loI lower198_pure x.s
 unfold mayN emp
 by_cases k1 : x.k = 1
 ·exact go0 aj0 aj0 (aj3 @dNd.eq_1 @size_e k1)
 by_cases k2 : x.k = 2
 ·by_cases h0 : x.n = 0
  ·exact go0 (aj1 e1) aj0 (aj5 @dNd.eq_1 @size_e k1 k2 h0)
  ·have h0' : (x.n == 0) = false := by simpa using h0
   exact go0 aj0 aj0 (aj6 @dNd.eq_1 @size_e k1 k2 h0 h0')
 by_cases k3 : x.k = 3
 ·by_cases h0 : x.n = 0
  ·exact go0 (aj1 e2) aj0 (aj6 @dNd.eq_1 @size_e k1 k2 k3 h0)
  ·have h0' : (x.n == 0) = false := by simpa using h0
   exact go0 aj0 aj0 (aj7 @dNd.eq_1 @size_e k1 k2 k3 h0 h0')
 by_cases k4 : x.k = 4
 ·exact go0 aj0 aj0 (aj6 @dNd.eq_1 @size_e k1 k2 k3 k4)
 by_cases k5 : x.k = 5
 ·exact go0 aj0 aj0 (aj7 @dNd.eq_1 @size_e k1 k2 k3 k4 k5)
 by_cases k6 : x.k = 6
 ·exact go0 aj0 aj0 (aj8 @dNd.eq_1 @size_e k1 k2 k3 k4 k5 k6)
 by_cases k7 : x.k = 7
 ·exact go0 aj0 aj0 (aj9 @dNd.eq_1 @size_e k1 k2 k3 k4 k5 k6 k7)
 by_cases k8 : x.k = 8
 ·exact go0 aj0 aj0 (aj10 @dNd.eq_1 @size_e k1 k2 k3 k4 k5 k6 k7 k8)
 exact go0 aj0 aj0 (aj10 @dNd.eq_1 @size_e k1 k2 k3 k4 k5 k6 k7 k8)

def wholeAt (r : List Nd) (w : Nat) : Bool := match endN r w with
 | some [] => true
 | _ => false
theorem wholeAt_zero (x : Nd) (r : List Nd) : wholeAt (x :: r) 0 = false := by unfold wholeAt; rw [endN_zero]
theorem wholeAt_none {r : List Nd} {w : Nat} (h : endN r w = none) : wholeAt r w = false := by unfold wholeAt; rw [h]
theorem wholeAt_next {x : Nd} {r : List Nd} {w : Nat} (h : mayN x = true) : wholeAt (x :: r) (w + 1) = wholeAt r (w + x.n.toNat) := by unfold wholeAt; rw [endN_cons, if_pos h]
theorem wholeAt_end (w : Nat) : wholeAt [] w = decide (w = 0) := by
 unfold wholeAt
 cases w with
 | zero => rw [endN_zero]; rfl
 | succ w => rw [endN_nil]; rfl
def anRX1133 : Ann := ⟨[], [⟨4, [5], [], []⟩]⟩
set_option maxHeartbeats 4000000 in
theorem whole56_pure (l : List Nd) (hs : l.length ≤ 1310720) : DPure Tryz.prog 133 [dNds l] (.bool (wholeB l)) := by
 refine DPure_introF [] (fn := Tryz.f133) Tryz.func133 rfl Tryz.call133 (by simp [Tryz.ntmps133]) (by simp [mx]) ?_
 intro hwf B hnt
 simp only [Tryz.ntmps133] at hnt
 have hA := an_is anRX1133 Tryz.mixed (aj2 @anRX1133.eq_1 Tryz.results133)
 clear hwf
 simp only [argS]
 obtain ⟨R, hR⟩ : ∃ R, R = wholeB l := ⟨_, rfl⟩
 rw [← hR]
 have hR2 : wholeAt l 1 = R := by rw [hR]; rfl
 clear hR
 (refine go1 aj0 aj0 aj0 ?_; intros; refine mk_i ?_)
 refine DW_loop (X := {p : Nat × Nat // p.1 ≤ l.length ∧ wholeAt (l.drop p.1) p.2 = R ∧ p.2 ≤ 1 + p.1 * 1310720 ∧ (p.1 = 0 → p.2 = 1)}) (fun p => ⟨[(0, dNds l), (3, .int .i64 p.1.2), (6, dNds l), (7, .int .i64 l.length), (8, .int .i64 p.1.1)], []⟩) (fun p => l.length - p.1.1) ⟨(0, 1), by simp [hR2]⟩ (Sub.lit (by simp)) ?_
 clear hR2
 rintro ⟨⟨k, w⟩, hk, hw, hwb, hw0⟩
 simp only at hk hw hwb hw0 ⊢
 by_cases hlt : k < l.length
 ·obtain ⟨x, hx, hx', _⟩ := at_lt' hlt
  rw [List.drop_eq_getElem_cons hlt, hx'] at hw
  have e1 := mayN_pure x
  simp only [dNd] at e1
  cases w with
  | zero =>
   rw [wholeAt_zero] at hw
   subst hw
   exact go0 aj0 aj0 (aj4 @dNd.eq_1 hlt hx hx')
  | succ v =>
   have hv : ¬ (v : Int) + 1 = 0 := by omega
   have hv' : (((v : Int) + 1) == 0) = false := by simpa using hv
   cases hm : mayN x
   ·rw [hm] at e1
    rw [wholeAt_none (by rw [endN_cons, hm]; rfl)] at hw
    subst hw
    exact go0 (aj1 e1) aj0 (aj6 @dNd.eq_1 hlt hx hx' hv hv')
   ·rw [hm] at e1
    have hk0 := mayN_kids hm
    obtain ⟨c, hcn⟩ : ∃ c : Nat, x.n = (c : Int) := ⟨x.n.toNat, by omega⟩
    rw [hcn] at e1
    rw [wholeAt_next hm, hcn, Int.toNat_natCast] at hw
    by_cases hbig : l.length < c
    ·have hbig' : (l.length : Int) < (c : Int) := by omega
     rw [wholeAt_none (endN_big _ _ (by rw [List.length_drop]; omega))] at hw
     subst hw
     exact go0 (aj1 e1) aj0 (aj9 @dNd.eq_1 hlt hx hx' hv hv' hcn hbig hbig')
    ·have hbig' : ¬ (l.length : Int) < (c : Int) := by omega
     have q1 : IntKind.i64.wrap ((c : Int) - 1) = (c : Int) - 1 := wrap64_in (by omega) (by omega)
     have q2 : IntKind.i64.wrap ((v : Int) + 1 + ((c : Int) - 1)) = (v : Int) + (c : Int) := by rw [wrap64_in (by omega) (by omega)]; omega
     (refine go1 (aj1 e1) aj0 (aj11 @dNd.eq_1 hlt hx hx' hv hv' hcn hbig hbig' q1 q2) ?_; intros; refine mk_i ?_)
     refine Again.mk ⟨(k + 1, v + c), show k + 1 ≤ l.length ∧ wholeAt (l.drop (k + 1)) (v + c) = R ∧ v + c ≤ 1 + (k + 1) * 1310720 ∧ (k + 1 = 0 → v + c = 1) from ⟨by omega, hw, by omega, by omega⟩⟩ (Sub.lit (by simp)) (by simp; omega)
     skip
 ·have hkk : k = l.length := by omega
  subst hkk
  rw [List.drop_length, wholeAt_end] at hw
  cases w with
  | zero =>
   have hpos : 0 < l.length := by
    rcases Nat.eq_zero_or_pos l.length with h | h
    ·have := hw0 h; omega
    ·exact h
   simp only [decide_true] at hw
   subst hw
   exact go0 aj0 aj0 (aj1 hpos)
  | succ v =>
   have hw2 : R = false := by rw [← hw]; simp
   subst hw2
   have hv : ¬ (v : Int) + 1 = 0 := by omega
   have hv' : (((v : Int) + 1) == 0) = false := by simpa using hv
   exact go0 aj0 aj0 (aj2 hv hv')
end Go.Proofs.YtdgocjbakjamaaaGreat
end

