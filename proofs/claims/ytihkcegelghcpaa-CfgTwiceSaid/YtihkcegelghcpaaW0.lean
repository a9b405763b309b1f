/- A part of a proof: walks over the functions that it names; their contracts hold for every argument. -/
import Derived.Test.YtihkcegelghcpaaEnFacts
import Derived.Test.YtihkcegelghcpaaEnV
import Derived.Test.YtihkcegelghcpaaEnO
set_option linter.unusedSimpArgs false
set_option linter.unusedVariables false
namespace Go.Proofs.Ytihkcegelghcpaa
open Go Go.Dm
attribute [local irreducible] DW callP callS

structure Sym where
  label : Bool
  n : Int
  deriving DecidableEq
def dSym (s : Sym) : List DVal := [.bool s.label, .int .i64 s.n]
abbrev dSyms (l : List Sym) : DVal := .sl 2 16 (l.map dSym)
structure Prod where
  head : Int
  body : List Sym
  deriving DecidableEq
def dProd (p : Prod) : List DVal := [.int .i64 p.head, dSyms p.body]
abbrev dProds (l : List Prod) : DVal := .sl 2 32 (l.map dProd)
structure Cnf where
  nts : Int
  prods : List Prod
  deriving DecidableEq
def dCnf (c : Cnf) : List DVal := [.int .i64 c.nts, dProds c.prods]

theorem Try.mixed : Try.prog.follows .mixedOrders = true := by kernel_rfl

theorem mxR0 {α : Type} (f : α → List DVal) (h : ∀ x, mxL (f x) = 0) (l : List α) : mxR (l.map f) = 0 := by
  induction l with
  | nil => rfl
  | cons x l ih => simp [mxR, h, ih]
@[simp] theorem mx_dSym (s : Sym) : mxL (dSym s) = 0 := by simp [dSym, mxL, mx]
@[simp] theorem mx_dSyms (l : List Sym) : mxR (l.map dSym) = 0 := mxR0 _ mx_dSym l
@[simp] theorem mx_dProd (p : Prod) : mxL (dProd p) = 0 := by simp [dProd, mxL, mx]
@[simp] theorem mx_dProds (l : List Prod) : mxR (l.map dProd) = 0 := mxR0 _ mx_dProd l
@[simp] theorem mx_dCnf (c : Cnf) : mxL (dCnf c) = 0 := by simp [dCnf, mxL, mx]

theorem wfR_at {α : Type} {f : α → List DVal} : ∀ {l : List α} {k : Nat} {x : α}, wfR (l.map f) → l[k]? = some x → wfL (f x)
  | a :: l, 0, x, h, hx => by
    simp only [List.getElem?_cons_zero, Option.some.injEq] at hx
    subst hx
    simp only [List.map_cons, wfR] at h
    exact h.1
  | a :: l, k + 1, x, h, hx => by
    simp only [List.map_cons, wfR] at h
    exact wfR_at h.2 (by simpa using hx)

/-- what a reading says of productions: numbers fit, lengths too -/
def wSym (s : Sym) : Prop := inR .i64 s.n
def wSyms (l : List Sym) : Prop := l.length * 16 ≤ 140737488355328 ∧ l.length ≤ 9223372036854775807 ∧ ∀ s ∈ l, inR .i64 s.n
def wProd (p : Prod) : Prop := inR .i64 p.head ∧ wSyms p.body
def wProds (l : List Prod) : Prop := l.length * 32 ≤ 140737488355328 ∧ l.length ≤ 9223372036854775807 ∧ ∀ p ∈ l, wProd p
def wCnf (c : Cnf) : Prop := inR .i64 c.nts ∧ wProds c.prods
theorem wfR_mem {α : Type} {f : α → List DVal} {l : List α} {x : α} (h : wfR (l.map f)) (hx : x ∈ l) : wfL (f x) := by
  obtain ⟨k, hk, rfl⟩ := List.getElem_of_mem hx
  exact wfR_at h (List.getElem?_eq_getElem hk)
theorem w_syms {l : List Sym} (h : wfD (dSyms l)) : wSyms l := by
  simp only [wfD, List.length_map, maxLen] at h
  exact ⟨h.1, by omega, fun s hs => by have := wfR_mem h.2.2 hs; simp only [dSym, wfL, wfD] at this; exact this.2.1⟩
theorem w_prod {p : Prod} (h : wfL (dProd p)) : wProd p := by
  simp only [dProd, wfL, wfD] at h
  exact ⟨h.1, w_syms (by simp only [wfD]; exact h.2.1)⟩
theorem w_prods {l : List Prod} (h : wfD (dProds l)) : wProds l := by
  simp only [wfD, List.length_map, maxLen] at h
  exact ⟨h.1, by omega, fun p hp => w_prod (wfR_mem h.2.2 hp)⟩
theorem w_cnf {c : Cnf} (h : wfL (dCnf c)) : wCnf c := by
  simp only [dCnf, wfL] at h
  exact ⟨by simpa [wfD] using h.1, w_prods h.2.1⟩
theorem at_lt' {α : Type} {l : List α} {k : Nat} (h : k < l.length) : ∃ x, l[k]? = some x ∧ l[k] = x ∧ x ∈ l := ⟨l[k], List.getElem?_eq_getElem h, rfl, List.getElem_mem h⟩
end Go.Proofs.Ytihkcegelghcpaa
