/- Parts of a proof, laid together: W0, WA, EnY, EnSt, WB0, WB2, WC1, WB3, EnSc, WB4. -/
import Derived.Shelf.SlSortCmp.NoneTotal
import Derived.Shelf.SortM.Plain
import Derived.Shelf.SortM.SortNone
import Derived.Shelf.Small.Strs
import Derived.Lib.Builder
import Derived.WalkKit
import Derived.BigCall
import Derived.Scope
import Derived.Test.YtihkcegelghcpaaqCw5
import Derived.Test.YtihkcegelghcpaaqCw6
section
/- A part of a proof: walks over the functions that it names; their contracts hold for every argument. -/



set_option linter.unusedSimpArgs false
set_option linter.unusedVariables false
namespace Go.Proofs.Ytihkcegelghcpaa
open Go Go.Dm
attribute [local irreducible] DW callP callS

structure Sym where
  label : Bool
  n : Int
  deriving DecidableEq
def dSym (s : Sym) : List DVal := [.bool s.label, .int .i64 s.n]
abbrev dSyms (l : List Sym) : DVal := .sl 2 16 (l.map dSym)
structure Prod where
  head : Int
  body : List Sym
  deriving DecidableEq
def dProd (p : Prod) : List DVal := [.int .i64 p.head, dSyms p.body]
abbrev dProds (l : List Prod) : DVal := .sl 2 32 (l.map dProd)
structure Cnf where
  nts : Int
  prods : List Prod
  deriving DecidableEq
def dCnf (c : Cnf) : List DVal := [.int .i64 c.nts, dProds c.prods]

theorem Try.mixed : Try.prog.follows .mixedOrders = true := by kernel_rfl

theorem mxR0 {α : Type} (f : α → List DVal) (h : ∀ x, mxL (f x) = 0) (l : List α) : mxR (l.map f) = 0 := by
  induction l with
  | nil => rfl
  | cons x l ih => simp [mxR, h, ih]
@[simp] theorem mx_dSym (s : Sym) : mxL (dSym s) = 0 := by simp [dSym, mxL, mx]
@[simp] theorem mx_dSyms (l : List Sym) : mxR (l.map dSym) = 0 := mxR0 _ mx_dSym l
@[simp] theorem mx_dProd (p : Prod) : mxL (dProd p) = 0 := by simp [dProd, mxL, mx]
@[simp] theorem mx_dProds (l : List Prod) : mxR (l.map dProd) = 0 := mxR0 _ mx_dProd l
@[simp] theorem mx_dCnf (c : Cnf) : mxL (dCnf c) = 0 := by simp [dCnf, mxL, mx]

theorem wfR_at {α : Type} {f : α → List DVal} : ∀ {l : List α} {k : Nat} {x : α}, wfR (l.map f) → l[k]? = some x → wfL (f x)
  | a :: l, 0, x, h, hx => by
    simp only [List.getElem?_cons_zero, Option.some.injEq] at hx
    subst hx
    simp only [List.map_cons, wfR] at h
    exact h.1
  | a :: l, k + 1, x, h, hx => by
    simp only [List.map_cons, wfR] at h
    exact wfR_at h.2 (by simpa using hx)

/-- what a reading says of productions: numbers fit, lengths too -/
def wSym (s : Sym) : Prop := inR .i64 s.n
def wSyms (l : List Sym) : Prop := l.length * 16 ≤ 150000000000000 ∧ l.length ≤ 9223372036854775807 ∧ ∀ s ∈ l, inR .i64 s.n
def wProd (p : Prod) : Prop := inR .i64 p.head ∧ wSyms p.body
def wProds (l : List Prod) : Prop := l.length * 32 ≤ 150000000000000 ∧ l.length ≤ 9223372036854775807 ∧ ∀ p ∈ l, wProd p
def wCnf (c : Cnf) : Prop := inR .i64 c.nts ∧ wProds c.prods
theorem wfR_mem {α : Type} {f : α → List DVal} {l : List α} {x : α} (h : wfR (l.map f)) (hx : x ∈ l) : wfL (f x) := by
  obtain ⟨k, hk, rfl⟩ := List.getElem_of_mem hx
  exact wfR_at h (List.getElem?_eq_getElem hk)
theorem w_syms {l : List Sym} (h : wfD (dSyms l)) : wSyms l := by
  simp only [wfD, List.length_map, maxLen] at h
  exact ⟨h.1, by omega, fun s hs => by have := wfR_mem h.2.2 hs; simp only [dSym, wfL, wfD] at this; exact this.2.1⟩
theorem w_prod {p : Prod} (h : wfL (dProd p)) : wProd p := by
  simp only [dProd, wfL, wfD] at h
  exact ⟨h.1, w_syms (by simp only [wfD]; exact h.2.1)⟩
theorem w_prods {l : List Prod} (h : wfD (dProds l)) : wProds l := by
  simp only [wfD, List.length_map, maxLen] at h
  exact ⟨h.1, by omega, fun p hp => w_prod (wfR_mem h.2.2 hp)⟩
theorem w_cnf {c : Cnf} (h : wfL (dCnf c)) : wCnf c := by
  simp only [dCnf, wfL] at h
  exact ⟨by simpa [wfD] using h.1, w_prods h.2.1⟩
theorem at_lt' {α : Type} {l : List α} {k : Nat} (h : k < l.length) : ∃ x, l[k]? = some x ∧ l[k] = x ∧ x ∈ l := ⟨l[k], List.getElem?_eq_getElem h, rfl, List.getElem_mem h⟩
end Go.Proofs.Ytihkcegelghcpaa
end

section
/- Texts, edges, graphs: shapes. -/

set_option linter.unusedSimpArgs false
set_option linter.unusedVariables false
namespace Go.Proofs.Ytihkcegelghcpaa
open Go Go.Dm

instance : LawfulBEq ByteArray where
  eq_of_beq {a b} h := by
    rw [← data_beq] at h
    have h := eq_of_beq h
    cases a; cases b; simp only at h; rw [h]
  rfl {a} := by rw [← data_beq]; exact beq_self_eq_true _
structure Edge where
  fr : ByteArray
  lb : ByteArray
  to : ByteArray
  deriving DecidableEq
structure Edges where
  nodes : List ByteArray
  edges : List Edge
  deriving DecidableEq
def dStr (s : ByteArray) : List DVal := [.str s]
def dEdge (e : Edge) : List DVal := [.str e.fr, .str e.lb, .str e.to]
abbrev dStrs (l : List ByteArray) : DVal := .sl 1 16 (l.map dStr)
abbrev dEds (l : List Edge) : DVal := .sl 3 48 (l.map dEdge)
def dGr (g : Edges) : List DVal := [dStrs g.nodes, dEds g.edges]
@[simp] theorem mx_dStr (s : ByteArray) : mxL (dStr s) = 0 := by simp [dStr, mxL, mx]
@[simp] theorem mx_dEdge (s : Edge) : mxL (dEdge s) = 0 := by simp [dEdge, mxL, mx]
@[simp] theorem mx_dStrs (l : List ByteArray) : mxR (l.map dStr) = 0 := mxR0 _ mx_dStr l
@[simp] theorem mx_dEds (l : List Edge) : mxR (l.map dEdge) = 0 := mxR0 _ mx_dEdge l
@[simp] theorem mx_dGr (g : Edges) : mxL (dGr g) = 0 := by simp [dGr, mxL, mx]

/-- the order of bytes -/
def sLess (a b : ByteArray) : Bool := Op.bytesLess a.data.toList b.data.toList
theorem bl_irr : ∀ l : List UInt8, Op.bytesLess l l = false
  | [] => rfl
  | a :: l => by simp [Op.bytesLess, bl_irr l]
theorem bl_trans : ∀ {a b c : List UInt8}, Op.bytesLess a b = true → Op.bytesLess b c = true → Op.bytesLess a c = true
  | _, [], _, h, _ => by cases ‹List UInt8› <;> simp [Op.bytesLess] at h
  | _, _ :: _, [], _, h => by simp [Op.bytesLess] at h
  | [], _ :: _, _ :: _, _, _ => by simp [Op.bytesLess]
  | x :: a, y :: b, z :: c, h1, h2 => by
    simp only [Op.bytesLess, Bool.or_eq_true, Bool.and_eq_true, decide_eq_true_eq, beq_iff_eq] at h1 h2 ⊢
    rcases h1 with h1 | ⟨rfl, h1⟩
    · rcases h2 with h2 | ⟨rfl, h2⟩
      · exact .inl (UInt8.lt_trans h1 h2)
      · exact .inl h1
    · rcases h2 with h2 | ⟨rfl, h2⟩
      · exact .inl h2
      · exact .inr ⟨rfl, bl_trans h1 h2⟩
theorem bl_tri : ∀ {a b : List UInt8}, Op.bytesLess a b = false → Op.bytesLess b a = false → a = b
  | [], [], _, _ => rfl
  | [], _ :: _, h, _ => by simp [Op.bytesLess] at h
  | _ :: _, [], _, h => by simp [Op.bytesLess] at h
  | x :: a, y :: b, h1, h2 => by
    simp only [Op.bytesLess, Bool.or_eq_false_iff, Bool.and_eq_false_iff, decide_eq_false_iff_not, beq_eq_false_iff_ne] at h1 h2
    have hxy : x = y := UInt8.le_antisymm (UInt8.not_lt.1 h2.1) (UInt8.not_lt.1 h1.1)
    subst hxy
    rw [bl_tri (h1.2.resolve_left (by simp)) (h2.2.resolve_left (by simp))]
theorem sLess_irr (a : ByteArray) : sLess a a = false := bl_irr _
theorem sLess_trans {a b c : ByteArray} (h1 : sLess a b = true) (h2 : sLess b c = true) : sLess a c = true := bl_trans h1 h2
theorem bytes_ext {a b : ByteArray} (h : a.data.toList = b.data.toList) : a = b := by
  obtain ⟨⟨x⟩⟩ := a
  obtain ⟨⟨y⟩⟩ := b
  simp only at h
  subst h
  rfl
theorem sLess_tri {a b : ByteArray} (h1 : sLess a b = false) (h2 : sLess b a = false) : a = b := bytes_ext (bl_tri h1 h2)
theorem sLess_asym {a b : ByteArray} (h : sLess a b = true) : sLess b a = false := by
  cases hb : sLess b a
  · rfl
  · have := sLess_trans h hb; rw [sLess_irr] at this; simp at this
theorem sLess_ne {a b : ByteArray} (h : sLess a b = true) : a ≠ b := fun e => by subst e; rw [sLess_irr] at h; simp at h
/-- what strings.Compare answers -/
def sCmp (a b : ByteArray) : Int := if sLess a b then -1 else if sLess b a then 1 else 0
theorem sCmp_zero {a b : ByteArray} : sCmp a b = 0 ↔ a = b := by
  unfold sCmp
  constructor
  · intro h
    split at h
    · simp at h
    · split at h
      · simp at h
      · rename_i h1 h2
        exact sLess_tri (by simpa using h1) (by simpa using h2)
  · rintro rfl
    rw [sLess_irr]; simp
/-- the order of edges -/
def eLess (a b : Edge) : Bool := if a.fr ≠ b.fr then sLess a.fr b.fr else if a.lb ≠ b.lb then sLess a.lb b.lb else sLess a.to b.to
def eCmp (a b : Edge) : Int := if sCmp a.fr b.fr ≠ 0 then sCmp a.fr b.fr else if sCmp a.lb b.lb ≠ 0 then sCmp a.lb b.lb else sCmp a.to b.to
theorem sCmp_neg {a b : ByteArray} : sCmp a b < 0 ↔ sLess a b = true := by
  unfold sCmp
  split
  · simp_all
  · split <;> simp_all
theorem eCmp_neg {a b : Edge} : eCmp a b < 0 ↔ eLess a b = true := by
  unfold eCmp eLess
  simp only [ne_eq, sCmp_zero, ite_not]
  split
  · split
    · exact sCmp_neg
    · exact sCmp_neg
  · exact sCmp_neg
end Go.Proofs.Ytihkcegelghcpaa
end

section
/- The data machine, second make, part Y: slices.SortFunc at structs, by the shelf's contract, as a contract on own rows. -/


set_option linter.unusedSimpArgs false
set_option linter.unusedVariables false
namespace Go.Dm
open Go.Shelf Go.Sort Go.Proofs

theorem upd_grow {w w' : World} (h : Upd [] w w') : ∃ q os, w' = grow (w.drewN q) os := by
  refine ⟨w'.drawn - w.drawn, w'.heap.extract w.heap.size w'.heap.size, ?_⟩
  obtain ⟨heap, tape, drawn, os, output⟩ := w'
  obtain ⟨h1, h2, h3, h4, h5, h6⟩ := h
  simp only at h1 h2 h3 h4 h5 h6 ⊢
  subst h1; subst h2; subst h3
  have e1 : w.heap ++ heap.extract w.heap.size heap.size = heap := by
    apply Array.ext_getElem?
    intro i
    by_cases hi : i < w.heap.size
    · rw [Array.getElem?_append_left hi, ← h6 i hi (by simp)]
    · rw [Array.getElem?_append_right (by omega), Array.getElem?_extract]
      by_cases hi2 : i < heap.size
      · rw [if_pos (by omega)]
        congr 1
        omega
      · rw [if_neg (by omega), Array.getElem?_eq_none (by omega)]
  have e2 : w.drawn + (drawn - w.drawn) = drawn := by omega
  simp [grow, World.drewN, e1, e2]

section
variable {P : Program} {ρ : Ren} {g : FuncId} {et k cap b : Nat} {cs : List DVal} {cs' : Array Value} {cf : List DVal → List DVal → Int} {es es' : List (List DVal)} {cu0 : Cur} {M1 : List Nat} {w : World} {arr : Array Value}

theorem sortWorld_at {α : Type} [Inhabited α] (enc : α → List Value) (p3 : w.heap[b]? = some (.cells arr et (0, 0))) (m : Nat) (os : Array Obj) (dk : Array α) :
    (sortWorldK enc k w b 0 m dk os).heap[b]? = some (.cells (putCells id 0 (flatK enc k dk) arr) et (0, 0)) ∧ (∀ q, q < w.heap.size → q ≠ b → (sortWorldK enc k w b 0 m dk os).heap[q]? = w.heap[q]?) ∧ w.heap.size ≤ (sortWorldK enc k w b 0 m dk os).heap.size ∧
        (sortWorldK enc k w b 0 m dk os).os = w.os ∧ (sortWorldK enc k w b 0 m dk os).tape = w.tape ∧ (sortWorldK enc k w b 0 m dk os).output = w.output ∧ w.drawn ≤ (sortWorldK enc k w b 0 m dk os).drawn := by
  have hblk : b < w.heap.size := (Array.getElem?_eq_some_iff.1 p3).1
  refine ⟨?_, fun q hq hqb => ?_, ?_, rfl, rfl, rfl, Nat.le_add_right _ _⟩
  · simp only [sortWorldK, grow, putRowK, putRow, mapBlock, ahead]
    rw [Array.getElem?_append_left (by simpa using hblk), Array.getElem?_modify]
    simp [p3, onCells]
  · simp only [sortWorldK, grow, putRowK, putRow, mapBlock, ahead]
    rw [Array.getElem?_append_left (by simpa using hq), Array.getElem?_modify]
    rw [if_neg (fun h => hqb h.symm)]
    rfl
  · simp [sortWorldK, grow, putRowK, putRow, mapBlock, ahead]

/-- the cells of the row that is sorted -/
theorem putCells_at {α : Type} [Inhabited α] {enc : α → List Value} (hlen : ∀ x, (enc x).length = k) {dk : Array α} {i p : Nat} (hi : i < dk.size) (hp : p < k) (hsz : dk.size * k ≤ arr.size) :
    (putCells id 0 (flatK enc k dk) arr)[i * k + p]? = (enc dk[i]!)[p]? := by
  have hrow := mul_lt_row (k := k) hi
  have hlt : i * k + p < arr.size := by omega
  have hdiv : (i * k + p) / k = i := by
    rw [Nat.mul_comm, Nat.mul_add_div (by omega), Nat.div_eq_of_lt hp]; omega
  have hmod : (i * k + p) % k = p := by rw [Nat.mul_comm, Nat.mul_add_mod]; exact Nat.mod_eq_of_lt hp
  have hlf : i * k + p < dk.size * k := by omega
  have hpe : p < (enc dk[i]!).length := by rw [hlen]; exact hp
  simp only [putCells, Nat.zero_add, Array.getElem?_mapIdx, Array.getElem?_eq_getElem hlt, Option.map_some, Nat.zero_le, true_and, size_flatK, hlf, if_true, Nat.sub_zero, id]
  rw [get_flatK _ _ _ _ hlf, hdiv, hmod, getElem!_pos (enc dk[i]!) p hpe, List.getElem?_eq_getElem hpe]

theorem sort_core {α : Type} [Inhabited α] (L : SlLaysF0.n6 P ρ) (dt : α → List DVal) (enc : α → List Value) (d : Array α) (hag : tAgg P (ρ.t 24) = some true) (hcl : tCells P (ρ.t 24) = some k) (hcs : mxL cs = 0) (hes : ∀ x ∈ es, mxL x = 0)
    (hdt : ∀ x, dt x ∈ es) (hdk : ∀ x, (dt x).length = k) (hrd : ∀ x, rdV cu0 M1 w.heap (dt x) (enc x)) (hone : ∀ x, ∀ u ∈ enc x, u.oneCell' = true) (hdsz : d.size = es.length)
    (hd : ∀ i (hi : i < es.length), dt d[i]! = es[i] ∧ ∀ (q : Nat) (v : Value), (enc d[i]!)[q]? = some v → arr[i * k + q]? = some v)
    (p3 : w.heap[b]? = some (.cells arr et (0, 0))) (hcap : es.length * k ≤ arr.size) (hbM : b ∈ M1) (hMlt : ∀ q ∈ M1, q < w.heap.size) (hcsr : rdV cu0 M1 w.heap cs cs'.toList) (hlt : es.length < 4611686018427387904)
    (hg : Enters P g) (hcmp : ∀ x ∈ es, ∀ y ∈ es, DPure P g (.agg x :: .agg y :: cs) (.int .i64 (cf x y)))
    (hirr : ∀ x ∈ es, ¬ cf x x < 0) (htr : ∀ x ∈ es, ∀ y ∈ es, ∀ z ∈ es, cf x y < 0 → cf y z < 0 → cf x z < 0) (hnt : ∀ x ∈ es, ∀ y ∈ es, ∀ z ∈ es, ¬ cf x y < 0 → ¬ cf y z < 0 → ¬ cf x z < 0)
    (huniq : ∀ l : List (List DVal), l.Perm es → l.Pairwise (fun x y => ¬ cf y x < 0) → l = es') :
    Calls P (ρ.f 6) #[.slice (some ⟨b, 0, none⟩) es.length cap, .func (.func g) #[] cs'] w fun e w' => e = .returned (.tuple #[]) ∧ es'.length = es.length ∧ Upd [b] w w' ∧
      ∃ arr', w'.heap[b]? = some (.cells arr' et (0, 0)) ∧ arr'.size = arr.size ∧ ∀ cur M2, (∀ q ∈ M2, q ∈ M1) → rdR cur M2 w'.heap k es' arr' 0 := by
  have hlen : ∀ x : α, (enc x).length = k := fun x => by
    have := rdV_length _ _ (hrd x)
    have := hdk x
    omega
  have hO : SWO (ltOf fun x y : α => cf (dt x) (dt y)) := by
    refine ⟨fun x => ?_, fun x y z h1 h2 => ?_, fun x y z h1 h2 => ?_⟩
    · simp only [ltOf, decide_eq_false_iff_not]; exact hirr _ (hdt x)
    · simp only [ltOf, decide_eq_true_eq] at *; exact htr _ (hdt x) _ (hdt y) _ (hdt z) h1 h2
    · simp only [ltOf, decide_eq_false_iff_not] at *; exact hnt _ (hdt x) _ (hdt y) _ (hdt z) h1 h2
  have hH : HoldsK enc k w b 0 d := by
    intro j hj
    rw [size_flatK, hdsz] at hj
    have hk0 : 0 < k := by
      rcases Nat.eq_zero_or_pos k with h | h
      · subst h; simp at hj
      · exact h
    have hi : j / k < es.length := by rw [Nat.div_lt_iff_lt_mul hk0]; exact hj
    have hq : j % k < k := Nat.mod_lt _ hk0
    rw [get_flatK _ _ _ _ (by rw [hdsz]; exact hj)]
    have hq' : j % k < (enc d[j / k]!).length := by rw [hlen]; exact hq
    have hcell := (hd _ hi).2 (j % k) _ (List.getElem?_eq_getElem hq')
    rw [Nat.mul_comm, Nat.div_add_mod] at hcell
    rw [getElem!_pos (enc d[j / k]!) _ hq']
    exact ⟨by simp only [World.cell?, p3, Nat.zero_add, id]; exact hcell, by simp [World.frozen?, p3]⟩
  have hblk : b < w.heap.size := (Array.getElem?_eq_some_iff.1 p3).1
  have Wk : ∀ m os (dk : Array α) (cur : Cur) (M2 : List Nat), (∀ q ∈ M2, q ∈ M1) → Weak cu0 cur M1 M2 w.heap (sortWorldK enc k w b 0 m dk os).heap 0 := by
    intro m os dk cur M2 hM2
    have hW := sortWorld_at (et := et) (arr := arr) (k := k) enc p3 m os dk
    exact ⟨fun _ _ _ h => by omega, fun q o hq (_ : isD o = true) ho => by rw [hW.2.1 q (Array.getElem?_eq_some_iff.1 ho).1 (fun h => hq (h ▸ hbM))]; exact ho, fun q o hq (_ : isD o = true) _ hm => hq (hM2 q hm)⟩
  have hC : CmpLays P g cs' enc k (fun x y : α => cf (dt x) (dt y)) b 0 d.size w := by
    intro m os dk _ x y
    have hD := hcmp _ (hdt x) _ (hdt y)
    have hW := sortWorld_at (et := et) (arr := arr) (k := k) enc p3 m os dk
    have hx := rdV_weak (Wk m os dk (fun _ _ => none) M1 (fun _ h => h)) _ _ (Nat.le_of_eq (hes _ (hdt x))) (hrd x)
    have hy := rdV_weak (Wk m os dk (fun _ _ => none) M1 (fun _ h => h)) _ _ (Nat.le_of_eq (hes _ (hdt y))) (hrd y)
    have hc := rdV_weak (Wk m os dk (fun _ _ => none) M1 (fun _ h => h)) _ _ (Nat.le_of_eq hcs) hcsr
    obtain ⟨X, hX⟩ : ∃ X, X = (enc x).toArray := ⟨_, rfl⟩
    obtain ⟨Y, hY⟩ : ∃ Y, Y = (enc y).toArray := ⟨_, rfl⟩
    simp only [← hX, ← hY]
    generalize sortWorldK enc k w b 0 m dk os = V at hW hx hy hc ⊢
    have key := hD.2.2 (fun _ _ => none) M1 V (#[.agg X, .agg Y] ++ cs') (fun q hq => Nat.lt_of_lt_of_le (hMlt q hq) hW.2.2.1)
    refine (key ?_).mono ?_
    · have e1 : (#[Value.agg X, Value.agg Y] ++ cs').toList = Value.agg X :: Value.agg Y :: cs'.toList := by simp
      rw [e1]
      simp only [rdV]
      refine ⟨_, _, rfl, ?_, _, _, rfl, ?_, hc⟩
      · simp only [rd]; exact ⟨_, rfl, by rw [hX]; exact hx⟩
      · simp only [rd]; exact ⟨_, rfl, by rw [hY]; exact hy⟩
    · rintro e w' ⟨v, rfl, hu, hv⟩
      simp only [rd] at hv
      exact ⟨by rw [hv.1], upd_grow hu⟩
  have hrun := AnyQ.slices_SortFunc L k (run_isAgg hag) (run_sizeOf' hcl) enc hlen hone (fun x y : α => cf (dt x) (dt y)) hO g cs' b 0 cap d w hg hC hH hblk (by omega)
  rw [hdsz] at hrun
  refine hrun.mono ?_
  rintro e w' ⟨rfl, d', n, os, hP, hS, rfl⟩
  obtain ⟨hsz', _, hperm⟩ := hP
  rw [hdsz] at hsz'
  have e1 : d'.extract 0 es.length = d' := by rw [← hsz']; exact Array.extract_size
  have e2 : d.extract 0 es.length = d := by rw [← hdsz]; exact Array.extract_size
  rw [e1, e2] at hperm
  have hdes : d.toList.map dt = es := by
    apply List.ext_getElem
    · simp [hdsz]
    · intro i h1 h2
      have := (hd i h2).1
      rw [getElem!_pos d i (by omega)] at this
      simpa using this
  have hdata : d'.toList.map dt = es' := by
    refine huniq _ ?_ ?_
    · have := hperm.map dt
      rwa [hdes] at this
    · rw [List.pairwise_map, List.pairwise_iff_getElem]
      intro i j hi hj hij
      have hi' : i < d'.size := by simpa using hi
      have hj' : j < d'.size := by simpa using hj
      have := hS i j (Nat.zero_le _) hij (by omega)
      rw [getElem!_pos d' j hj', getElem!_pos d' i hi'] at this
      simpa [ltOf] using this
  have hlen' : es'.length = es.length := by rw [← hdata]; simp [hsz']
  obtain ⟨q1, q2, q3, q4, q5, q6, q7⟩ := sortWorld_at (et := et) (arr := arr) (k := k) enc p3 n os d'
  refine ⟨rfl, hlen', ⟨q4, q5, q6, q7, q3, fun q hq hn => q2 q hq (fun h => hn (by simp [h]))⟩, _, q1, by simp [putCells], fun cur M2 hM2 => ?_⟩
  refine rdR_mk _ _ _ _ fun i cs0 hi => ?_
  have hil : i < es'.length := (List.getElem?_eq_some_iff.1 hi).1
  have hid : i < d'.size := by omega
  have hcs0 : cs0 = dt d'[i]! := by
    rw [← hdata, List.getElem?_map] at hi
    rw [getElem!_pos d' i hid]
    simp [hid] at hi
    exact hi.symm
  subst hcs0
  refine ⟨hdk _, ?_⟩
  have hv := rdV_weak (Wk n os d' cur M2 hM2) _ _ (Nat.le_of_eq (hes _ (hdt _))) (hrd d'[i]!)
  have h0 := rdC_of _ _ [] [] hv (hone _)
  refine rdC_same _ _ _ _ _ (fun p hp => ?_) h0
  have hp' : p < k := by rw [hdk] at hp; exact hp
  rw [Nat.zero_add, putCells_at hlen hid hp' (by rw [hsz']; exact hcap)]
  simp
end

/-- SORTED BY A COMPARISON: what an own row holds behind is the one sorted list of its elements. -/
theorem sort_spec {P : Program} {ρ : Ren} (L : SlLaysF0.n6 P ρ) {f g : FuncId} {et k bs : Nat} {cs : List DVal} {cf : List DVal → List DVal → Int} {es es' : List (List DVal)} (hf : ρ.f 6 = f) (hen : Enters P f) (hag : tAgg P (ρ.t 24) = some true) (hcl : tCells P (ρ.t 24) = some k)
    (hbs0 : 0 < bs) (hcs : mxL cs = 0) (hes : ∀ x ∈ es, mxL x = 0) (hg : Enters P g) (hcmp : ∀ x ∈ es, ∀ y ∈ es, DPure P g (.agg x :: .agg y :: cs) (.int .i64 (cf x y)))
    (hirr : ∀ x ∈ es, ¬ cf x x < 0) (htr : ∀ x ∈ es, ∀ y ∈ es, ∀ z ∈ es, cf x y < 0 → cf y z < 0 → cf x z < 0) (hnt : ∀ x ∈ es, ∀ y ∈ es, ∀ z ∈ es, ¬ cf x y < 0 → ¬ cf y z < 0 → ¬ cf x z < 0)
    (huniq : ∀ l : List (List DVal), l.Perm es → l.Pairwise (fun x y => ¬ cf y x < 0) → l = es') :
    DSpec P (.func f) [.osl 0 0, .fn (.func g) [] cs] [⟨0, 0, .row et k bs es⟩] (.tup []) [⟨0, 0, .row et k bs es'⟩] := by
  refine ⟨by simp, hen, fun M w loc vs S hr => ?_⟩
  refine ⟨hen, ?_⟩
  simp only [rdV] at hr
  obtain ⟨v0, r0, hvs, h0, v1, r1, rfl, h1, rfl⟩ := hr
  simp only [rd] at h0 h1
  obtain ⟨us', cs', rfl, hus, hcsr⟩ := h1
  simp only [rdV] at hus
  have hus' : us' = #[] := by cases us'; simpa using hus
  subst hus'
  have hcur0 : curOf [(⟨0, 0, .row et k bs es⟩ : Ent)] loc 0 0 = some (loc 0) := rfl
  have hv0 := h0 _ hcur0
  have hvs' : vs = #[v0, .func (.func g) #[] cs'] := by cases vs; simpa using hvs
  subst hvs'
  subst hf
  have hhot : hotOf [(⟨0, 0, .row et k bs es⟩ : Ent)] loc = (loc 0).blks := by simp [hotOf]
  have hhot' : hotOf [(⟨0, 0, .row et k bs es'⟩ : Ent)] loc = (loc 0).blks := by simp [hotOf]
  have htup : ∀ cur M h, rd cur M h (.tup []) (.tuple #[]) := fun _ _ _ => by simp only [rd]; exact ⟨#[], rfl, by simp [rdV]⟩
  have hk := S.ok ⟨0, 0, .row et k bs es⟩ (by simp)
  by_cases hne : es = []
  · subst hne
    have hes' : es' = [] := (huniq [] (List.Perm.refl _) List.Pairwise.nil).symm
    subst hes'
    obtain ⟨a, cap, hh⟩ : ∃ a cap, (loc 0).hdr = .slice a 0 cap := by
      obtain ⟨_, ⟨_, _, h2⟩ | ⟨b, arr, cap, _, h2, _⟩⟩ := hk
      · exact ⟨_, _, h2⟩
      · exact ⟨_, _, h2⟩
    rw [hh] at hv0
    subst hv0
    refine (AnyF.slices_SortFunc_none { L with } a cap (.func (.func g) #[] cs') w).mono ?_
    rintro e w' ⟨rfl, rfl⟩
    exact ⟨_, rfl, loc, S, Upd.refl _ _, fun b hb => .inl hb, fun e he _ => curOf_self S.nd he, htup _ _ _⟩
  · obtain ⟨b, arr, cap, p1, p2, p3, p4, p5, p6, p7⟩ : ∃ b arr cap, (loc 0).blks = [b] ∧ (loc 0).hdr = .slice (some ⟨b, 0, none⟩) es.length cap ∧ w.heap[b]? = some (.cells arr et (0, 0)) ∧ es.length ≤ cap ∧ cap ≤ maxLen ∧ cap * k = arr.size ∧ rdR (curOf [(⟨0, 0, .row et k bs es⟩ : Ent)] loc) (hotOf [(⟨0, 0, .row et k bs es⟩ : Ent)] loc ++ M) w.heap k es arr 0 := by
      obtain ⟨_, ⟨h, _⟩ | h⟩ := hk
      · exact absurd h hne
      · exact h
    have hbs := hk.1
    rw [p2] at hv0
    subst hv0
    obtain ⟨cu0, hcu0⟩ : ∃ c, c = curOf [(⟨0, 0, .row et k bs es⟩ : Ent)] loc := ⟨_, rfl⟩
    obtain ⟨M1, hM1⟩ : ∃ m, m = hotOf [(⟨0, 0, .row et k bs es⟩ : Ent)] loc ++ M := ⟨_, rfl⟩
    rw [← hcu0, ← hM1] at p7 hcsr
    have hbM : b ∈ M1 := by rw [hM1, hhot, p1]; simp
    have hMlt : ∀ q ∈ M1, q < w.heap.size := by rw [hM1]; exact S.lt
    have hcap : es.length * k ≤ arr.size := by rw [← p6]; exact Nat.mul_le_mul_right _ p4
    have hpos : 0 < es.length := List.length_pos_iff.2 hne
    have hel : ∀ i : Fin es.length, ∃ us : List Value, rdV cu0 M1 w.heap es[i.1] us ∧ (∀ u ∈ us, u.oneCell' = true) ∧ ∀ (q : Nat) (v : Value), us[q]? = some v → arr[i.1 * k + q]? = some v := by
      intro i
      obtain ⟨q1, q2⟩ := rdR_at k es arr 0 i.1 es[i.1] p7 (List.getElem?_eq_getElem i.2)
      obtain ⟨us, g1, g2, g3⟩ := rdC_vals _ _ _ q2
      refine ⟨us, g2, fun u hu => ?_, fun q v hq => ?_⟩
      · obtain ⟨j, hj, rfl⟩ := List.getElem_of_mem hu
        exact (g3 j _ (List.getElem?_eq_getElem hj)).2
      · have := (g3 q v hq).1
        simpa using this
    haveI : Inhabited (Fin es.length) := ⟨⟨0, hpos⟩⟩
    have hlt : es.length < 4611686018427387904 := by
      have h1 : es.length * 1 ≤ es.length * bs := Nat.mul_le_mul_left _ hbs0
      have h2 : es.length * bs ≤ 150000000000000 := hbs
      omega
    have hd : ∀ i (hi : i < es.length), (Array.ofFn (fun i : Fin es.length => i))[i]! = ⟨i, hi⟩ := by
      intro i hi
      rw [getElem!_pos _ i (by simpa using hi)]
      simp
    refine (sort_core (et := et) (α := Fin es.length) L (fun i => es[i.1]) (fun i => (hel i).choose) (Array.ofFn fun i => i) hag hcl hcs hes (fun i => List.getElem_mem _) (fun i => (rdR_at k es arr 0 i.1 es[i.1] p7 (List.getElem?_eq_getElem i.2)).1) (fun i => (hel i).choose_spec.1) (fun i => (hel i).choose_spec.2.1) (by simp)
      (fun i hi => by rw [hd i hi]; exact ⟨rfl, (hel ⟨i, hi⟩).choose_spec.2.2⟩) p3 hcap hbM hMlt hcsr hlt hg hcmp hirr htr hnt huniq).mono ?_
    rintro e w' ⟨rfl, hlen', hu, arr', r1, r2, r3⟩
    have hM2 : hotOf [(⟨0, 0, .row et k bs es'⟩ : Ent)] loc ++ M = M1 := by rw [hM1, hhot, hhot']
    refine ⟨_, rfl, loc, ⟨by simp, by rw [hhot', p1]; simp, fun q hq => S.ap q (by rw [hhot]; rwa [hhot'] at hq), fun q hq => ?_, ?_⟩, by rw [hhot, p1]; exact hu, fun q hq => .inl (by rw [hhot]; rwa [hhot'] at hq), ?_, htup _ _ _⟩
    · rw [hM2] at hq; exact Nat.lt_of_lt_of_le (hMlt q hq) hu.size
    · intro e he
      simp only [List.mem_singleton] at he
      subst he
      rw [hM2]
      exact ⟨by rw [hlen']; exact hbs, .inr ⟨b, arr', cap, p1, by rw [hlen']; exact p2, r1, by omega, p5, by omega, r3 _ _ fun _ h => h⟩⟩
    · intro e he _
      simp only [List.mem_singleton] at he
      subst he
      exact hcur0
end Go.Dm
end

section
/- The data machine, second make, part St: slices.Sort at texts, strings.Compare, by the shelf's contracts. -/





set_option linter.unusedSimpArgs false
set_option linter.unusedVariables false
namespace Go.Dm
open Go.Shelf Go.Sort Go.Proofs Go.RowKit

/-- texts in order -/
def ssort (l : List ByteArray) : List ByteArray := ((l.map fun s => s.data.toList).mergeSort fun x y => decide (x ≤ y)).map fun x => ⟨x.toArray⟩
theorem ssort_len (l : List ByteArray) : (ssort l).length = l.length := by simp [ssort]

theorem putRow_at {α : Type} [Inhabited α] (enc : α → Value) {w : World} {b et : Nat} {arr : Array Value} (p3 : w.heap[b]? = some (.cells arr et (0, 0))) (m : Nat) (os : Array Obj) (dk : Array α) :
    (grow (putRow enc (Sort.ahead w m) b 0 dk) os).heap[b]? = some (.cells (putCells enc 0 dk arr) et (0, 0)) ∧ (∀ q, q < w.heap.size → q ≠ b → (grow (putRow enc (Sort.ahead w m) b 0 dk) os).heap[q]? = w.heap[q]?) ∧ w.heap.size ≤ (grow (putRow enc (Sort.ahead w m) b 0 dk) os).heap.size ∧
        (grow (putRow enc (Sort.ahead w m) b 0 dk) os).os = w.os ∧ (grow (putRow enc (Sort.ahead w m) b 0 dk) os).tape = w.tape ∧ (grow (putRow enc (Sort.ahead w m) b 0 dk) os).output = w.output ∧ w.drawn ≤ (grow (putRow enc (Sort.ahead w m) b 0 dk) os).drawn := by
  have hblk : b < w.heap.size := (Array.getElem?_eq_some_iff.1 p3).1
  refine ⟨?_, fun q hq hqb => ?_, ?_, rfl, rfl, rfl, Nat.le_add_right _ _⟩
  · simp only [grow, putRow, mapBlock, Sort.ahead]
    rw [Array.getElem?_append_left (by simpa using hblk), Array.getElem?_modify]
    simp [p3, onCells]
  · simp only [grow, putRow, mapBlock, Sort.ahead]
    rw [Array.getElem?_append_left (by simpa using hq), Array.getElem?_modify]
    rw [if_neg (fun h => hqb h.symm)]
  · simp [grow, putRow, mapBlock, Sort.ahead]

def dText (s : ByteArray) : List DVal := [.str s]
theorem sortStr_spec {P : Program} {ρ : Ren} (L : SlLaysM.n6 P ρ) {f : FuncId} {et bs : Nat} (hf : ρ.f 6 = f) (hen : Enters P f) (hbs0 : 0 < bs) (l : List ByteArray) :
    DSpec P (.func f) [.osl 0 0] [⟨0, 0, .row et 1 bs (l.map dText)⟩] (.tup []) [⟨0, 0, .row et 1 bs ((ssort l).map dText)⟩] := by
  refine ⟨by simp, hen, fun M w loc vs S hr => ?_⟩
  refine ⟨hen, ?_⟩
  simp only [rdV] at hr
  obtain ⟨v0, r0, hvs, h0, rfl⟩ := hr
  simp only [rd] at h0
  have hcur0 : ∀ l : List ByteArray, curOf [(⟨0, 0, .row et 1 bs (l.map dText)⟩ : Ent)] loc 0 0 = some (loc 0) := fun _ => rfl
  have hv0 := h0 _ (hcur0 l)
  have hvs' : vs = #[v0] := by cases vs; simpa using hvs
  subst hvs'
  subst hf
  have hhot : ∀ l : List ByteArray, hotOf [(⟨0, 0, .row et 1 bs (l.map dText)⟩ : Ent)] loc = (loc 0).blks := fun _ => by simp [hotOf]
  have htup : ∀ cur M h, rd cur M h (.tup []) (.tuple #[]) := fun _ _ _ => by simp only [rd]; exact ⟨#[], rfl, by simp [rdV]⟩
  have hk := S.ok ⟨0, 0, .row et 1 bs (l.map dText)⟩ (by simp)
  by_cases hne : l = []
  · subst hne
    obtain ⟨a, cap, hh⟩ : ∃ a cap, (loc 0).hdr = .slice a 0 cap := by
      obtain ⟨_, ⟨_, _, h2⟩ | ⟨b, arr, cap, _, h2, _⟩⟩ := hk
      · exact ⟨_, _, h2⟩
      · exact ⟨_, _, h2⟩
    rw [hh] at hv0
    subst hv0
    refine (AnyM.slices_Sort_string_none L a cap w).mono ?_
    rintro e w' ⟨rfl, rfl⟩
    have e0 : ssort [] = [] := by simp [ssort]
    rw [e0]
    exact ⟨_, rfl, loc, S, Upd.refl _ _, fun b hb => .inl hb, fun e he _ => curOf_self S.nd he, htup _ _ _⟩
  · obtain ⟨b, arr, cap, p1, p2, p3, p4, p5, p6, p7⟩ : ∃ b arr cap, (loc 0).blks = [b] ∧ (loc 0).hdr = .slice (some ⟨b, 0, none⟩) (l.map dText).length cap ∧ w.heap[b]? = some (.cells arr et (0, 0)) ∧ (l.map dText).length ≤ cap ∧ cap ≤ maxLen ∧ cap * 1 = arr.size ∧ rdR (curOf [(⟨0, 0, .row et 1 bs (l.map dText)⟩ : Ent)] loc) (hotOf [(⟨0, 0, .row et 1 bs (l.map dText)⟩ : Ent)] loc ++ M) w.heap 1 (l.map dText) arr 0 := by
      obtain ⟨_, ⟨h, _⟩ | h⟩ := hk
      · exact absurd (List.map_eq_nil_iff.1 h) hne
      · exact h
    have hbs : (l.map dText).length * bs ≤ 150000000000000 := hk.1
    rw [p2] at hv0
    subst hv0
    rw [List.length_map] at p2 p4 hbs
    have hmax : ∀ s ∈ l, s.size ≤ maxLen ∧ True := by
      intro s hs
      obtain ⟨i, hi, rfl⟩ := List.getElem_of_mem hs
      obtain ⟨q1, q2⟩ := rdR_at 1 _ arr 0 i [.str l[i]] p7 (by simp [dText, hi])
      obtain ⟨us, g1, g2, g3⟩ := rdC_vals _ _ _ q2
      simp only [rdV, rd] at g2
      obtain ⟨v, _, _, ⟨_, h⟩, _⟩ := g2
      exact ⟨h, trivial⟩
    have hcell : ∀ i (hi : i < l.length), arr[i]? = some (.string l[i]) := by
      intro i hi
      obtain ⟨q1, q2⟩ := rdR_at 1 _ arr 0 i [.str l[i]] p7 (by simp [dText, hi])
      obtain ⟨us, g1, g2, g3⟩ := rdC_vals _ _ _ q2
      simp only [rdV, rd] at g2
      obtain ⟨v, r, rfl, ⟨rfl, _⟩, _⟩ := g2
      have := (g3 0 _ rfl).1
      simpa using this
    obtain ⟨ss, hss⟩ : ∃ ss, ss = l.map fun s => s.data.toList := ⟨_, rfl⟩
    have hssl : ss.length = l.length := by rw [hss, List.length_map]
    have hH : Holds encStr w b 0 ss.toArray := by
      intro j hj
      simp only [List.size_toArray, hssl] at hj
      refine ⟨?_, Lib.frozen_of_heap p3 _⟩
      rw [Nat.zero_add, Lib.cell_of_heap p3, hcell j hj]
      rw [getElem!_pos _ j (by simpa [hssl] using hj)]
      simp [hss, encStr]
    have hlt : ss.length < 4611686018427387904 := by
      rw [hssl]
      have h1 : l.length * 1 ≤ l.length * bs := Nat.mul_le_mul_left _ hbs0
      omega
    have hbl : b < w.heap.size := (Array.getElem?_eq_some_iff.1 p3).1
    have key := AnyM.slices_Sort_string L b 0 cap ss w hH hbl hlt
    rw [hssl] at key
    simp only [List.length_map]
    refine key.mono ?_
    rintro e w' ⟨rfl, n, os, rfl⟩
    obtain ⟨q1, q2, q3, q4, q5, q6, q7⟩ := putRow_at encStr (et := et) (arr := arr) p3 n os (ss.mergeSort fun x y => decide (x ≤ y)).toArray
    have hse : ssort l = (ss.mergeSort fun x y => decide (x ≤ y)).map fun x => ⟨x.toArray⟩ := by rw [hss]; rfl
    have hml : (ss.mergeSort fun x y => decide (x ≤ y)).length = l.length := by simp [hssl]
    refine ⟨_, rfl, loc, ⟨by simp, by rw [hhot, p1]; simp, fun q hq => S.ap q (by rw [hhot]; rwa [hhot] at hq), fun q hq => ?_, ?_⟩, ?_, fun q hq => .inl (by rw [hhot]; rwa [hhot] at hq), ?_, htup _ _ _⟩
    · refine Nat.lt_of_lt_of_le (S.lt q ?_) q3
      rw [hhot] at hq ⊢; exact hq
    · intro e he
      simp only [List.mem_singleton] at he
      subst he
      refine ⟨by simpa [ssort_len] using hbs, .inr ⟨b, _, cap, p1, by simpa [ssort_len] using p2, q1, by simpa [ssort_len] using p4, p5, by simpa [putCells] using p6, ?_⟩⟩
      refine rdR_mk _ _ _ _ fun i cs0 hi => ?_
      have hil : i < l.length := by
        have := (List.getElem?_eq_some_iff.1 hi).1
        simpa [ssort_len] using this
      rw [hse] at hi
      have him : i < (ss.mergeSort fun x y => decide (x ≤ y)).length := by omega
      simp only [List.map_map, List.getElem?_map, List.getElem?_eq_getElem him, Option.map_some, Function.comp_apply, Option.some.injEq] at hi
      subst hi
      refine ⟨rfl, ?_⟩
      have hmem : (ss.mergeSort fun x y => decide (x ≤ y))[i] ∈ ss := (List.mergeSort_perm ss _).mem_iff.1 (List.getElem_mem him)
      have hsz : (⟨((ss.mergeSort fun x y => decide (x ≤ y))[i]).toArray⟩ : ByteArray).size ≤ maxLen := by
        generalize (ss.mergeSort fun x y => decide (x ≤ y))[i] = y at hmem ⊢
        rw [hss] at hmem
        obtain ⟨s, hs, hse⟩ := List.mem_map.1 hmem
        have := (hmax s hs).1
        rw [← hse]
        exact this
      have h0 := rdC_of (cur := curOf [(⟨0, 0, .row et 1 bs ((ssort l).map dText)⟩ : Ent)] loc) (M := hotOf [(⟨0, 0, .row et 1 bs ((ssort l).map dText)⟩ : Ent)] loc ++ M) (H := (grow (putRow encStr (Sort.ahead w n) b 0 (ss.mergeSort fun x y => decide (x ≤ y)).toArray) os).heap) [.str ⟨((ss.mergeSort fun x y => decide (x ≤ y))[i]).toArray⟩] [.string ⟨((ss.mergeSort fun x y => decide (x ≤ y))[i]).toArray⟩] [] [] (by simp only [rdV, rd]; exact ⟨_, _, rfl, ⟨rfl, hsz⟩, rfl⟩) (by simp [Value.oneCell'])
      refine rdC_same _ _ _ _ _ (fun p hp => ?_) h0
      have hp0 : p = 0 := by simp [dText] at hp; omega
      subst hp0
      have hia : i < arr.size := by omega
      simp only [putCells, Array.getElem?_mapIdx]
      rw [show 0 + i * 1 + 0 = i by omega, Array.getElem?_eq_getElem hia]
      simp [him, encStr, hml, hil, hssl]
    · rw [hhot, p1]
      exact ⟨q4, q5, q6, q7, q3, fun q hq hn => q2 q hq (fun h => hn (by simp [h]))⟩
    · intro e he _
      simp only [List.mem_singleton] at he
      subst he
      rfl

theorem cmpBytes_range : ∀ a b : List UInt8, Lib.compareBytes a b = -1 ∨ Lib.compareBytes a b = 0 ∨ Lib.compareBytes a b = 1
  | [], [] => by simp [Lib.compareBytes]
  | [], _ :: _ => by simp [Lib.compareBytes]
  | _ :: _, [] => by simp [Lib.compareBytes]
  | a :: l, b :: r => by
    unfold Lib.compareBytes
    split
    · exact .inl rfl
    · split
      · exact .inr (.inr rfl)
      · exact cmpBytes_range l r
theorem strCmp_pure {P : Program} {ρ : Ren} (L : Lays.n106 P ρ) {f : FuncId} (hf : ρ.f 106 = f) (hen : Enters P f) (a b : ByteArray) : DPure P f [.str a, .str b] (.int .i64 (Lib.compareBytes a.data.toList b.data.toList)) := by
  refine ⟨hen, by simp [mx], fun cur M w vs _ hr => ?_⟩
  simp only [rdV, rd] at hr
  obtain ⟨v0, r0, hvs, ⟨rfl, _⟩, v1, r1, rfl, ⟨rfl, _⟩, rfl⟩ := hr
  have hvs' : vs = #[.string a, .string b] := by cases vs; simpa using hvs
  subst hvs'
  subst hf
  refine (Any.strings_Compare L a b w).mono ?_
  rintro e w' ⟨rfl, rfl⟩
  refine ⟨_, rfl, Upd.refl _ _, ?_⟩
  simp only [rd]
  refine ⟨trivial, ?_⟩
  have := cmpBytes_range a.data.toList b.data.toList
  simp only [inR]
  omega
end Go.Dm
end

section
/- strings.Builder, strings.Compare, slices.Sort at texts -/






set_option linter.unusedSimpArgs false
set_option linter.unusedVariables false
namespace Go.Proofs.Ytihkcegelghcpaa
open Go Go.Dm Go.RowKit Go.Proofs
set_option maxRecDepth 100000

set_option maxHeartbeats 1000000 in
theorem copyCheck_first (b n : Nat) (w : World) (h0 : w.cell? ⟨b, 0, none⟩ = some (.pointer none)) (hsh : w.shape? b = some (213, n)) (hn : 0 < n) (hl : liesAt Try.prog Try.prog.depth 213 (n / Try.prog.cellsOf 213) 0 213 1 = true) (hfz : w.frozen? ⟨b, 0, none⟩ = false) :
    Calls Try.prog 193 #[.pointer (some ⟨b, 0, none⟩)] w fun e w' => e = .returned (.tuple #[]) ∧ w' = w.setCell ⟨b, 0, none⟩ (.pointer (some ⟨b, 0, none⟩)) := by
  obtain ⟨j, hj, hjs⟩ : ∃ j, Try.prog.info? 213 = some j ∧ j.size = 2 := Option.map_eq_some_iff.1 (show (Try.prog.info? 213).map (·.size) = some 2 by kernel_rfl)
  go_enter Try.func193, Try.ntmps193
  go_wp2
  rw [Lib.run_to_unsafe w ⟨b, 0, none⟩ Try.underlying210 Try.underlying245 hj (by rw [hjs]; decide) hsh hn]
  simp only [Result.andThen]
  rw [Oper.upon_value]
  go_wp2
  rw [run_callFunc_extern Try.func212 (by kernel_rfl) (by kernel_rfl) (by kernel_rfl) (e := Extern.AbiNoEscape.same) (by kernel_rfl)]
  rw [Lib.run_noEscape]
  simp only [Result.andThen]
  rw [Oper.upon_value]
  go_wp2
  rw [Lib.run_from_unsafe w ⟨b, 0, none⟩ Try.underlying245 Try.underlying210 hj hsh hl]
  simp only [Result.andThen]
  rw [Oper.upon_value]
  go_wp2
  go_end0
  exact ⟨rfl, rfl⟩
set_option maxHeartbeats 1000000 in
theorem copyCheck_used (b : Nat) (w : World) (h0 : w.cell? ⟨b, 0, none⟩ = some (.pointer (some ⟨b, 0, none⟩))) :
    Calls Try.prog 193 #[.pointer (some ⟨b, 0, none⟩)] w fun e w' => e = .returned (.tuple #[]) ∧ w' = w := by
  obtain ⟨j, hj, hjs⟩ : ∃ j, Try.prog.info? 213 = some j ∧ j.size = 2 := Option.map_eq_some_iff.1 (show (Try.prog.info? 213).map (·.size) = some 2 by kernel_rfl)
  go_enter Try.func193, Try.ntmps193
  go_wp2
  rw [Lib.run_neq_ptr_same w _ Try.underlying210 hj]
  go_wp2
  go_end0
  exact ⟨rfl, rfl⟩

/-! as contracts -/
attribute [local irreducible] DW callP callS

theorem checkFirst_spec : DSpec Try.prog (.func 193) [.rx 0 0 2 0 0] [⟨0, 0, .row 213 2 32 [[.nilp, .nilsl]]⟩] (.tup []) [⟨0, 0, .row 213 2 32 [[.rx 0 0 2 0 0, .nilsl]]⟩] :=
  copyCheck_spec1 (by show ¬ _; exact of_decide_eq_true (by kernel_rfl)) (by kernel_rfl) Try.call193 32 copyCheck_first
theorem checkUsed_spec (x : ByteArray) : DSpec Try.prog (.func 193) [.rx 0 0 2 0 0] [⟨0, 0, .row 213 2 32 [[.rx 0 0 2 0 0, .osl 1 0]]⟩, ⟨1, 0, .row 5 1 1 (bytesD x)⟩] (.tup [])
    [⟨0, 0, .row 213 2 32 [[.rx 0 0 2 0 0, .osl 1 0]]⟩, ⟨1, 0, .row 5 1 1 (bytesD x)⟩] :=
  copyCheck_spec2 Try.call193 32 (.osl 1 0) _ (by simp) copyCheck_used

def anWB0177 : Ann := ⟨[7], []⟩
set_option maxHeartbeats 1000000 in
theorem writeFirst_spec (x : ByteArray) (hx : x.size ≤ 150000000000000) :
    DSpec Try.prog (.func 177) [.rx 0 0 2 0 0, .str x] [⟨0, 0, .row 213 2 32 [[.nilp, .nilsl]]⟩] (.tup [.int .i64 x.size, .nilifc])
      [⟨0, 0, .row 213 2 32 [[.rx 0 0 2 0 0, .osl 1 1]]⟩, ⟨1, 1, .row 5 1 1 (bytesD x)⟩] := by
  refine DSpec_intro [] [(0, 0, 0), (14, 1, 1)] (fn := Try.f177) Try.func177 rfl Try.call177 (by simp [Try.ntmps177]) (by simp) (by simp) ?_
  intro hwf B hnt
  simp only [argS]
  (repeat (first | (refine DW_seq fun K hK => ?_) | (refine DW_r anWB0177 Try.mixed (by kernel_rfl) ?_; simp [hnt, Try.ntmps177, Try.results177, anWB0177, hx]; try simp (disch := omega) only [wrap64_in]) | (refine DW_block ?_) | (focus (refine DW_if ?_ ?_ ?_; (· (simp [hnt, Try.ntmps177, Try.results177, anWB0177, hx]; done)); (try (rotate_left; (· (intro hc; (try simp [hnt, Try.ntmps177, Try.results177, anWB0177, hx] at hc); done)))))) | (refine DW_ret ?_; simp [hnt, Try.ntmps177, Try.results177, anWB0177, hx]) | (refine DW_exit ?_; simp [hnt, Try.ntmps177, Try.results177, anWB0177, hx]) | (refine DW_skip ?_; simp [hnt, Try.ntmps177, Try.results177, anWB0177, hx]) | (intro hc; (try simp [hnt, Try.ntmps177, Try.results177, anWB0177, hx] at hc); done) | (intro hc; (try simp [hnt, Try.ntmps177, Try.results177, anWB0177, hx] at hc); (first | (exfalso; omega) | skip)) | (refine callS_mk [(0,0)] [] (checkFirst_spec) ?_ ?_; (· (simp [hnt, Try.ntmps177, Try.results177, anWB0177, hx]; done)); (intro _; try simp [hnt, Try.ntmps177, Try.results177, anWB0177, hx])) | (refine ⟨?_, ?_⟩; · omega) | omega | apply_assumption -exfalso -symm | (exfalso; omega)))
def anWB0177b2 : Ann := ⟨[7], []⟩
set_option maxHeartbeats 1000000 in
theorem writeUsed_spec (y x : ByteArray) (hx : y.size + x.size ≤ 150000000000000) :
    DSpec Try.prog (.func 177) [.rx 0 0 2 0 0, .str x] [⟨0, 0, .row 213 2 32 [[.rx 0 0 2 0 0, .osl 1 0]]⟩, ⟨1, 0, .row 5 1 1 (bytesD y)⟩] (.tup [.int .i64 x.size, .nilifc])
      [⟨0, 0, .row 213 2 32 [[.rx 0 0 2 0 0, .osl 1 1]]⟩, ⟨1, 1, .row 5 1 1 (bytesD (y ++ x))⟩] := by
  refine DSpec_intro [] [(0, 0, 0), (1, 1, 1)] (fn := Try.f177) Try.func177 rfl Try.call177 (by simp [Try.ntmps177]) (by simp) (by simp) ?_
  intro hwf B hnt
  simp only [argS]
  rw [bytesD_app]
  (repeat (first | (refine DW_seq fun K hK => ?_) | (refine DW_r anWB0177b2 Try.mixed (by kernel_rfl) ?_; simp [hnt, Try.ntmps177, Try.results177, anWB0177b2, hx, bytesD_len]; try simp (disch := omega) only [wrap64_in]) | (refine DW_block ?_) | (focus (refine DW_if ?_ ?_ ?_; (· (simp [hnt, Try.ntmps177, Try.results177, anWB0177b2, hx, bytesD_len]; done)); (try (rotate_left; (· (intro hc; (try simp [hnt, Try.ntmps177, Try.results177, anWB0177b2, hx, bytesD_len] at hc); done)))))) | (refine DW_ret ?_; simp [hnt, Try.ntmps177, Try.results177, anWB0177b2, hx, bytesD_len]) | (refine DW_exit ?_; simp [hnt, Try.ntmps177, Try.results177, anWB0177b2, hx, bytesD_len]) | (refine DW_skip ?_; simp [hnt, Try.ntmps177, Try.results177, anWB0177b2, hx, bytesD_len]) | (intro hc; (try simp [hnt, Try.ntmps177, Try.results177, anWB0177b2, hx, bytesD_len] at hc); done) | (intro hc; (try simp [hnt, Try.ntmps177, Try.results177, anWB0177b2, hx, bytesD_len] at hc); (first | (exfalso; omega) | skip)) | (refine callS_mk [(0,0),(1,1)] [] (checkUsed_spec y) ?_ ?_; (· (simp [hnt, Try.ntmps177, Try.results177, anWB0177b2, hx, bytesD_len]; done)); (intro _; try simp [hnt, Try.ntmps177, Try.results177, anWB0177b2, hx, bytesD_len])) | (refine ⟨?_, ?_⟩; · omega) | omega | apply_assumption -exfalso -symm | (exfalso; omega)))
theorem bldExtra : Builder.Extra Try.prog Try.bldString_ren where
  sizeBuilder := by kernel_rfl
  liesBuilder := by kernel_rfl
  t5 := Try.underlying5
  a5 := Try.isAgg5
  z5 := Try.sizeOf5
  v5 := Try.zeroValue5
  infoByte := by kernel_rfl
  cellsByte := by kernel_rfl
  sizeByte := by kernel_rfl
  neB5 := by decide
theorem stringNone_spec : DSpec Try.prog (.func 178) [.rx 0 0 2 0 0] [⟨0, 0, .row 213 2 32 [[.nilp, .nilsl]]⟩] (.str ⟨#[]⟩) [] :=
  builderString_spec1 Try.bldString bldExtra Try.call178 32
theorem stringSome_spec (x : ByteArray) (hx : x.size ≠ 0) : DSpec Try.prog (.func 178) [.rx 0 0 2 0 0] [⟨0, 0, .row 213 2 32 [[.rx 0 0 2 0 0, .osl 1 0]]⟩, ⟨1, 0, .row 5 1 1 (bytesD x)⟩] (.str x) [] :=
  builderString_spec2 Try.bldString bldExtra Try.call178 32 x hx
theorem sortTexts_spec (l : List ByteArray) : DSpec Try.prog (.func 174) [.osl 0 0] [⟨0, 0, .row 9 1 16 (l.map dStr)⟩] (.tup []) [⟨0, 0, .row 9 1 16 ((ssort l).map dStr)⟩] :=
  sortStr_spec Try.sortStr (by rfl) Try.call174 (by decide) l
theorem cmpBytes_eq : ∀ a b : List UInt8, Lib.compareBytes a b = if Op.bytesLess a b then -1 else if Op.bytesLess b a then 1 else 0
  | [], [] => by simp [Lib.compareBytes, Op.bytesLess]
  | [], _ :: _ => by simp [Lib.compareBytes, Op.bytesLess]
  | _ :: _, [] => by simp [Lib.compareBytes, Op.bytesLess]
  | x :: a, y :: b => by
    unfold Lib.compareBytes
    simp only [Op.bytesLess, Bool.or_eq_true, decide_eq_true_eq, Bool.and_eq_true, beq_iff_eq]
    by_cases h1 : x < y
    · simp [h1]
    · by_cases h2 : y < x
      · have h3 : ¬ x = y := fun h => by subst h; exact h1 h2
        simp [h1, h2, h3]
      · have h3 : x = y := UInt8.le_antisymm (UInt8.not_lt.1 h2) (UInt8.not_lt.1 h1)
        subst h3
        simp only [h1, if_false, false_or, true_and]
        exact cmpBytes_eq a b
theorem compare_pure (a b : ByteArray) : DPure Try.prog 132 [.str a, .str b] (.int .i64 (sCmp a b)) := by
  have := strCmp_pure Try.strCmp (by rfl) Try.call132 a b
  rw [cmpBytes_eq] at this
  exact this
end Go.Proofs.Ytihkcegelghcpaa
end

section
/- small ones at texts and edges -/

set_option linter.unusedSimpArgs false
set_option linter.unusedVariables false
namespace Go.Proofs.Ytihkcegelghcpaa
open Go Go.Dm
attribute [local irreducible] DW callP callS
set_option maxRecDepth 100000

def anWB265 : Ann := ⟨[], []⟩
theorem given_pure (b : Bool) (e : Int) : DPure Try.prog 65 [.bool b, .int .i64 e] (.int .i64 (if b then e else 0)) := by
  refine DPure_introF [] (fn := Try.f65) Try.func65 rfl Try.call65 (by simp [Try.ntmps65]) (by simp [mx]) ?_
  intro hwf B hnt
  simp only [argS]
  cases b
  · (repeat (first | (refine DW_seq fun K hK => ?_) | (refine DW_r anWB265 Try.mixed (by kernel_rfl) ?_; simp [hnt, Try.ntmps65, Try.results65, anWB265]; try simp (disch := omega) only [wrap64_in]) | (refine DW_block ?_) | (focus (refine DW_if ?_ ?_ ?_; (· (simp [hnt, Try.ntmps65, Try.results65, anWB265]; done)); (try (rotate_left; (· (intro hc; (try simp [hnt, Try.ntmps65, Try.results65, anWB265] at hc); done)))))) | (refine DW_ret ?_; simp [hnt, Try.ntmps65, Try.results65, anWB265]) | (refine DW_exit ?_; simp [hnt, Try.ntmps65, Try.results65, anWB265]) | (refine DW_skip ?_; simp [hnt, Try.ntmps65, Try.results65, anWB265]) | (intro hc; (try simp [hnt, Try.ntmps65, Try.results65, anWB265] at hc); done) | (intro hc; (try simp [hnt, Try.ntmps65, Try.results65, anWB265] at hc); (first | (exfalso; omega) | skip)) | (refine ⟨?_, ?_⟩; · omega) | omega | apply_assumption -exfalso -symm | (exfalso; omega)))
  · (repeat (first | (refine DW_seq fun K hK => ?_) | (refine DW_r anWB265 Try.mixed (by kernel_rfl) ?_; simp [hnt, Try.ntmps65, Try.results65, anWB265]; try simp (disch := omega) only [wrap64_in]) | (refine DW_block ?_) | (focus (refine DW_if ?_ ?_ ?_; (· (simp [hnt, Try.ntmps65, Try.results65, anWB265]; done)); (try (rotate_left; (· (intro hc; (try simp [hnt, Try.ntmps65, Try.results65, anWB265] at hc); done)))))) | (refine DW_ret ?_; simp [hnt, Try.ntmps65, Try.results65, anWB265]) | (refine DW_exit ?_; simp [hnt, Try.ntmps65, Try.results65, anWB265]) | (refine DW_skip ?_; simp [hnt, Try.ntmps65, Try.results65, anWB265]) | (intro hc; (try simp [hnt, Try.ntmps65, Try.results65, anWB265] at hc); done) | (intro hc; (try simp [hnt, Try.ntmps65, Try.results65, anWB265] at hc); (first | (exfalso; omega) | skip)) | (refine ⟨?_, ?_⟩; · omega) | omega | apply_assumption -exfalso -symm | (exfalso; omega)))

/-- where a text stands -/
def placeS (l : List ByteArray) (s : ByteArray) : Int := if l.any (fun x => s == x) then ((l.findIdx fun x => s == x : Nat) : Int) else -1
theorem placeS_some {l : List ByteArray} {s : ByteArray} {k : Nat} (hk : k < l.length) (h : l[k] = s) (hno : ∀ i x, i < k → l[i]? = some x → (s == x) = false) : placeS l s = k := by
  unfold placeS
  have hb : (s == l[k]) = true := by rw [h]; exact beq_self_eq_true _
  rw [if_pos (List.any_eq_true.2 ⟨l[k], List.getElem_mem _, hb⟩)]
  congr 1
  rw [List.findIdx_eq hk]
  exact ⟨hb, fun i hi => hno i _ hi (List.getElem?_eq_getElem (by omega))⟩
theorem placeS_none {l : List ByteArray} {s : ByteArray} (hno : ∀ i x, i < l.length → l[i]? = some x → (s == x) = false) : placeS l s = -1 := by
  unfold placeS
  rw [if_neg]
  simp only [Bool.not_eq_true, List.any_eq_false]
  intro x hx
  obtain ⟨i, hi, rfl⟩ := List.getElem_of_mem hx
  rw [hno i _ hi (List.getElem?_eq_getElem hi)]
theorem hno_next {l : List ByteArray} {s x : ByteArray} {k : Nat} (hx : l[k]? = some x) (hb : (s == x) = false) (hno : ∀ i x, i < k → l[i]? = some x → (s == x) = false) : ∀ i x, i < k + 1 → l[i]? = some x → (s == x) = false := by
  intro i y hi hy
  by_cases hik : i = k
  · subst hik; rw [hx] at hy; simp only [Option.some.injEq] at hy; subst hy; exact hb
  · exact hno i y (by omega) hy
theorem len_strs {l : List ByteArray} (h : wfD (dStrs l)) : l.length < 9223372036854775807 := by
  simp only [wfD, List.length_map] at h
  omega
theorem len_eds {l : List Edge} (h : wfD (dEds l)) : l.length < 9223372036854775807 := by
  simp only [wfD, List.length_map] at h
  omega

def anWB2139 : Ann := ⟨[], []⟩
theorem index139_pure (l : List ByteArray) (s : ByteArray) : DPure Try.prog 139 [dStrs l, .str s] (.int .i64 (placeS l s)) := by
  refine DPure_introF [] (fn := Try.f139) Try.func139 rfl Try.call139 (by simp [Try.ntmps139]) (by simp [mx]) ?_
  intro hwf B hnt
  have hlen := len_strs hwf.1
  clear hwf
  simp only [argS]
  obtain ⟨R, hR⟩ : ∃ R, R = placeS l s := ⟨_, rfl⟩
  rw [← hR]
  (repeat (first | (refine DW_seq fun K hK => ?_) | (refine DW_r anWB2139 Try.mixed (by kernel_rfl) ?_; simp [hnt, Try.ntmps139, Try.results139, anWB2139]; try simp (disch := omega) only [wrap64_in]) | (refine DW_block ?_) | (focus (refine DW_if ?_ ?_ ?_; (· (simp [hnt, Try.ntmps139, Try.results139, anWB2139]; done)); (try (rotate_left; (· (intro hc; (try simp [hnt, Try.ntmps139, Try.results139, anWB2139] at hc); done)))))) | (refine DW_ret ?_; simp [hnt, Try.ntmps139, Try.results139, anWB2139]) | (refine DW_exit ?_; simp [hnt, Try.ntmps139, Try.results139, anWB2139]) | (refine DW_skip ?_; simp [hnt, Try.ntmps139, Try.results139, anWB2139]) | (intro hc; (try simp [hnt, Try.ntmps139, Try.results139, anWB2139] at hc); done) | (intro hc; (try simp [hnt, Try.ntmps139, Try.results139, anWB2139] at hc); (first | (exfalso; omega) | skip)) | (refine ⟨?_, ?_⟩; · omega) | omega | apply_assumption -exfalso -symm | (exfalso; omega)))
  refine DW_loop (X := {k : Nat // k ≤ l.length ∧ ∀ i x, i < k → l[i]? = some x → (s == x) = false}) (fun x => ⟨[(0, dStrs l), (1, .str s), (7, .int .i64 l.length), (8, .int .i64 x.1)], []⟩) (fun x => l.length - x.1) ⟨0, by simp⟩ (Sub.lit (by simp)) ?_
  rintro ⟨k, hk, hno⟩
  by_cases hlt : k < l.length
  · obtain ⟨x, hx, hx', hxm⟩ := at_lt' hlt
    cases hb : s == x
    · (repeat (first | (refine DW_seq fun K hK => ?_) | (refine DW_r anWB2139 Try.mixed (by kernel_rfl) ?_; simp [hnt, Try.ntmps139, Try.results139, anWB2139, dStr, hlt, hx', hx, hb]; try simp (disch := omega) only [wrap64_in]) | (refine DW_block ?_) | (focus (refine DW_if ?_ ?_ ?_; (· (simp [hnt, Try.ntmps139, Try.results139, anWB2139, dStr, hlt, hx', hx, hb]; done)); (try (rotate_left; (· (intro hc; (try simp [hnt, Try.ntmps139, Try.results139, anWB2139, dStr, hlt, hx', hx, hb] at hc); done)))))) | (refine DW_ret ?_; simp [hnt, Try.ntmps139, Try.results139, anWB2139, dStr, hlt, hx', hx, hb]) | (refine DW_exit ?_; simp [hnt, Try.ntmps139, Try.results139, anWB2139, dStr, hlt, hx', hx, hb]) | (refine DW_skip ?_; simp [hnt, Try.ntmps139, Try.results139, anWB2139, dStr, hlt, hx', hx, hb]) | (intro hc; (try simp [hnt, Try.ntmps139, Try.results139, anWB2139, dStr, hlt, hx', hx, hb] at hc); done) | (intro hc; (try simp [hnt, Try.ntmps139, Try.results139, anWB2139, dStr, hlt, hx', hx, hb] at hc); (first | (exfalso; omega) | skip)) | (refine ⟨?_, ?_⟩; · omega) | omega | apply_assumption -exfalso -symm | (exfalso; omega)))
      exact Again.mk ⟨k + 1, by omega, hno_next hx hb hno⟩ (Sub.lit (by simp [])) (by simp; omega)
      (repeat (first | (refine DW_seq fun K hK => ?_) | (refine DW_r anWB2139 Try.mixed (by kernel_rfl) ?_; simp [hnt, Try.ntmps139, Try.results139, anWB2139]; try simp (disch := omega) only [wrap64_in]) | (refine DW_block ?_) | (focus (refine DW_if ?_ ?_ ?_; (· (simp [hnt, Try.ntmps139, Try.results139, anWB2139]; done)); (try (rotate_left; (· (intro hc; (try simp [hnt, Try.ntmps139, Try.results139, anWB2139] at hc); done)))))) | (refine DW_ret ?_; simp [hnt, Try.ntmps139, Try.results139, anWB2139]) | (refine DW_exit ?_; simp [hnt, Try.ntmps139, Try.results139, anWB2139]) | (refine DW_skip ?_; simp [hnt, Try.ntmps139, Try.results139, anWB2139]) | (intro hc; (try simp [hnt, Try.ntmps139, Try.results139, anWB2139] at hc); done) | (intro hc; (try simp [hnt, Try.ntmps139, Try.results139, anWB2139] at hc); (first | (exfalso; omega) | skip)) | (refine ⟨?_, ?_⟩; · omega) | omega | apply_assumption -exfalso -symm | (exfalso; omega)))
    · have hRk : R = k := by rw [hR]; exact placeS_some hlt (by rw [hx']; exact (by simpa using hb : s = x).symm) hno
      subst hRk
      (repeat (first | (refine DW_seq fun K hK => ?_) | (refine DW_r anWB2139 Try.mixed (by kernel_rfl) ?_; simp [hnt, Try.ntmps139, Try.results139, anWB2139, dStr, hlt, hx', hx, hb]; try simp (disch := omega) only [wrap64_in]) | (refine DW_block ?_) | (focus (refine DW_if ?_ ?_ ?_; (· (simp [hnt, Try.ntmps139, Try.results139, anWB2139, dStr, hlt, hx', hx, hb]; done)); (try (rotate_left; (· (intro hc; (try simp [hnt, Try.ntmps139, Try.results139, anWB2139, dStr, hlt, hx', hx, hb] at hc); done)))))) | (refine DW_ret ?_; simp [hnt, Try.ntmps139, Try.results139, anWB2139, dStr, hlt, hx', hx, hb]) | (refine DW_exit ?_; simp [hnt, Try.ntmps139, Try.results139, anWB2139, dStr, hlt, hx', hx, hb]) | (refine DW_skip ?_; simp [hnt, Try.ntmps139, Try.results139, anWB2139, dStr, hlt, hx', hx, hb]) | (intro hc; (try simp [hnt, Try.ntmps139, Try.results139, anWB2139, dStr, hlt, hx', hx, hb] at hc); done) | (intro hc; (try simp [hnt, Try.ntmps139, Try.results139, anWB2139, dStr, hlt, hx', hx, hb] at hc); (first | (exfalso; omega) | skip)) | (refine ⟨?_, ?_⟩; · omega) | omega | apply_assumption -exfalso -symm | (exfalso; omega)))
  · have hkk : k = l.length := by omega
    subst hkk
    have hRk : R = -1 := by rw [hR]; exact placeS_none hno
    subst hRk
    (repeat (first | (refine DW_seq fun K hK => ?_) | (refine DW_r anWB2139 Try.mixed (by kernel_rfl) ?_; simp [hnt, Try.ntmps139, Try.results139, anWB2139]; try simp (disch := omega) only [wrap64_in]) | (refine DW_block ?_) | (focus (refine DW_if ?_ ?_ ?_; (· (simp [hnt, Try.ntmps139, Try.results139, anWB2139]; done)); (try (rotate_left; (· (intro hc; (try simp [hnt, Try.ntmps139, Try.results139, anWB2139] at hc); done)))))) | (refine DW_ret ?_; simp [hnt, Try.ntmps139, Try.results139, anWB2139]) | (refine DW_exit ?_; simp [hnt, Try.ntmps139, Try.results139, anWB2139]) | (refine DW_skip ?_; simp [hnt, Try.ntmps139, Try.results139, anWB2139]) | (intro hc; (try simp [hnt, Try.ntmps139, Try.results139, anWB2139] at hc); done) | (intro hc; (try simp [hnt, Try.ntmps139, Try.results139, anWB2139] at hc); (first | (exfalso; omega) | skip)) | (refine ⟨?_, ?_⟩; · omega) | omega | apply_assumption -exfalso -symm | (exfalso; omega)))
def anWB2104 : Ann := ⟨[], []⟩
theorem contains104_pure (l : List ByteArray) (s : ByteArray) : DPure Try.prog 104 [dStrs l, .str s] (.bool (decide (0 ≤ placeS l s))) := by
  refine DPure_introF [] (fn := Try.f104) Try.func104 rfl Try.call104 (by simp [Try.ntmps104]) (by simp [mx]) ?_
  intro hwf B hnt
  simp only [argS]
  (repeat (first | (refine DW_seq fun K hK => ?_) | (refine DW_r anWB2104 Try.mixed (by kernel_rfl) ?_; simp [hnt, Try.ntmps104, Try.results104, anWB2104]; try simp (disch := omega) only [wrap64_in]) | (refine DW_block ?_) | (focus (refine DW_if ?_ ?_ ?_; (· (simp [hnt, Try.ntmps104, Try.results104, anWB2104]; done)); (try (rotate_left; (· (intro hc; (try simp [hnt, Try.ntmps104, Try.results104, anWB2104] at hc); done)))))) | (refine DW_ret ?_; simp [hnt, Try.ntmps104, Try.results104, anWB2104]) | (refine DW_exit ?_; simp [hnt, Try.ntmps104, Try.results104, anWB2104]) | (refine DW_skip ?_; simp [hnt, Try.ntmps104, Try.results104, anWB2104]) | (intro hc; (try simp [hnt, Try.ntmps104, Try.results104, anWB2104] at hc); done) | (intro hc; (try simp [hnt, Try.ntmps104, Try.results104, anWB2104] at hc); (first | (exfalso; omega) | skip)) | (refine callP_mk (index139_pure l s) ?_; try simp [hnt, Try.ntmps104, Try.results104, anWB2104]) | (refine callP_wk (index139_pure l s) ?_ ?_; (· (simp; done)); try simp [hnt, Try.ntmps104, Try.results104, anWB2104]) | (refine ⟨?_, ?_⟩; · omega) | omega | apply_assumption -exfalso -symm | (exfalso; omega)))
def anWB2110 : Ann := ⟨[], []⟩
theorem place110_pure (l : List ByteArray) (s : ByteArray) : DPure Try.prog 110 [dStrs l, .str s] (.int .i64 (placeS l s)) := by
  refine DPure_introF [] (fn := Try.f110) Try.func110 rfl Try.call110 (by simp [Try.ntmps110]) (by simp [mx]) ?_
  intro hwf B hnt
  have hlen := len_strs hwf.1
  clear hwf
  simp only [argS]
  obtain ⟨R, hR⟩ : ∃ R, R = placeS l s := ⟨_, rfl⟩
  rw [← hR]
  (repeat (first | (refine DW_seq fun K hK => ?_) | (refine DW_r anWB2110 Try.mixed (by kernel_rfl) ?_; simp [hnt, Try.ntmps110, Try.results110, anWB2110]; try simp (disch := omega) only [wrap64_in]) | (refine DW_block ?_) | (focus (refine DW_if ?_ ?_ ?_; (· (simp [hnt, Try.ntmps110, Try.results110, anWB2110]; done)); (try (rotate_left; (· (intro hc; (try simp [hnt, Try.ntmps110, Try.results110, anWB2110] at hc); done)))))) | (refine DW_ret ?_; simp [hnt, Try.ntmps110, Try.results110, anWB2110]) | (refine DW_exit ?_; simp [hnt, Try.ntmps110, Try.results110, anWB2110]) | (refine DW_skip ?_; simp [hnt, Try.ntmps110, Try.results110, anWB2110]) | (intro hc; (try simp [hnt, Try.ntmps110, Try.results110, anWB2110] at hc); done) | (intro hc; (try simp [hnt, Try.ntmps110, Try.results110, anWB2110] at hc); (first | (exfalso; omega) | skip)) | (refine ⟨?_, ?_⟩; · omega) | omega | apply_assumption -exfalso -symm | (exfalso; omega)))
  refine DW_loop (X := {k : Nat // k ≤ l.length ∧ ∀ i x, i < k → l[i]? = some x → (s == x) = false}) (fun x => ⟨[(0, dStrs l), (1, .str s), (5, .int .i64 x.1)], []⟩) (fun x => l.length - x.1) ⟨0, by simp⟩ (Sub.lit (by simp)) ?_
  rintro ⟨k, hk, hno⟩
  by_cases hlt : k < l.length
  · obtain ⟨x, hx, hx', hxm⟩ := at_lt' hlt
    cases hb : s == x
    · have hb' : (x == s) = false := by rw [Bool.eq_false_iff] at hb ⊢; simp at hb ⊢; exact fun h => hb h.symm
      (repeat (first | (refine DW_seq fun K hK => ?_) | (refine DW_r anWB2110 Try.mixed (by kernel_rfl) ?_; simp [hnt, Try.ntmps110, Try.results110, anWB2110, dStr, hlt, hx', hx, hb']; try simp (disch := omega) only [wrap64_in]) | (refine DW_block ?_) | (focus (refine DW_if ?_ ?_ ?_; (· (simp [hnt, Try.ntmps110, Try.results110, anWB2110, dStr, hlt, hx', hx, hb']; done)); (try (rotate_left; (· (intro hc; (try simp [hnt, Try.ntmps110, Try.results110, anWB2110, dStr, hlt, hx', hx, hb'] at hc); done)))))) | (refine DW_ret ?_; simp [hnt, Try.ntmps110, Try.results110, anWB2110, dStr, hlt, hx', hx, hb']) | (refine DW_exit ?_; simp [hnt, Try.ntmps110, Try.results110, anWB2110, dStr, hlt, hx', hx, hb']) | (refine DW_skip ?_; simp [hnt, Try.ntmps110, Try.results110, anWB2110, dStr, hlt, hx', hx, hb']) | (intro hc; (try simp [hnt, Try.ntmps110, Try.results110, anWB2110, dStr, hlt, hx', hx, hb'] at hc); done) | (intro hc; (try simp [hnt, Try.ntmps110, Try.results110, anWB2110, dStr, hlt, hx', hx, hb'] at hc); (first | (exfalso; omega) | skip)) | (refine ⟨?_, ?_⟩; · omega) | omega | apply_assumption -exfalso -symm | (exfalso; omega)))
      exact Again.mk ⟨k + 1, by omega, hno_next hx hb hno⟩ (Sub.lit (by simp [])) (by simp; omega)
      (repeat (first | (refine DW_seq fun K hK => ?_) | (refine DW_r anWB2110 Try.mixed (by kernel_rfl) ?_; simp [hnt, Try.ntmps110, Try.results110, anWB2110]; try simp (disch := omega) only [wrap64_in]) | (refine DW_block ?_) | (focus (refine DW_if ?_ ?_ ?_; (· (simp [hnt, Try.ntmps110, Try.results110, anWB2110]; done)); (try (rotate_left; (· (intro hc; (try simp [hnt, Try.ntmps110, Try.results110, anWB2110] at hc); done)))))) | (refine DW_ret ?_; simp [hnt, Try.ntmps110, Try.results110, anWB2110]) | (refine DW_exit ?_; simp [hnt, Try.ntmps110, Try.results110, anWB2110]) | (refine DW_skip ?_; simp [hnt, Try.ntmps110, Try.results110, anWB2110]) | (intro hc; (try simp [hnt, Try.ntmps110, Try.results110, anWB2110] at hc); done) | (intro hc; (try simp [hnt, Try.ntmps110, Try.results110, anWB2110] at hc); (first | (exfalso; omega) | skip)) | (refine ⟨?_, ?_⟩; · omega) | omega | apply_assumption -exfalso -symm | (exfalso; omega)))
    · have hb' : (x == s) = true := by simp at hb ⊢; exact hb.symm
      have hRk : R = k := by rw [hR]; exact placeS_some hlt (by rw [hx']; exact (by simpa using hb : s = x).symm) hno
      subst hRk
      (repeat (first | (refine DW_seq fun K hK => ?_) | (refine DW_r anWB2110 Try.mixed (by kernel_rfl) ?_; simp [hnt, Try.ntmps110, Try.results110, anWB2110, dStr, hlt, hx', hx, hb']; try simp (disch := omega) only [wrap64_in]) | (refine DW_block ?_) | (focus (refine DW_if ?_ ?_ ?_; (· (simp [hnt, Try.ntmps110, Try.results110, anWB2110, dStr, hlt, hx', hx, hb']; done)); (try (rotate_left; (· (intro hc; (try simp [hnt, Try.ntmps110, Try.results110, anWB2110, dStr, hlt, hx', hx, hb'] at hc); done)))))) | (refine DW_ret ?_; simp [hnt, Try.ntmps110, Try.results110, anWB2110, dStr, hlt, hx', hx, hb']) | (refine DW_exit ?_; simp [hnt, Try.ntmps110, Try.results110, anWB2110, dStr, hlt, hx', hx, hb']) | (refine DW_skip ?_; simp [hnt, Try.ntmps110, Try.results110, anWB2110, dStr, hlt, hx', hx, hb']) | (intro hc; (try simp [hnt, Try.ntmps110, Try.results110, anWB2110, dStr, hlt, hx', hx, hb'] at hc); done) | (intro hc; (try simp [hnt, Try.ntmps110, Try.results110, anWB2110, dStr, hlt, hx', hx, hb'] at hc); (first | (exfalso; omega) | skip)) | (refine ⟨?_, ?_⟩; · omega) | omega | apply_assumption -exfalso -symm | (exfalso; omega)))
  · have hkk : k = l.length := by omega
    subst hkk
    have hRk : R = -1 := by rw [hR]; exact placeS_none hno
    subst hRk
    (repeat (first | (refine DW_seq fun K hK => ?_) | (refine DW_r anWB2110 Try.mixed (by kernel_rfl) ?_; simp [hnt, Try.ntmps110, Try.results110, anWB2110]; try simp (disch := omega) only [wrap64_in]) | (refine DW_block ?_) | (focus (refine DW_if ?_ ?_ ?_; (· (simp [hnt, Try.ntmps110, Try.results110, anWB2110]; done)); (try (rotate_left; (· (intro hc; (try simp [hnt, Try.ntmps110, Try.results110, anWB2110] at hc); done)))))) | (refine DW_ret ?_; simp [hnt, Try.ntmps110, Try.results110, anWB2110]) | (refine DW_exit ?_; simp [hnt, Try.ntmps110, Try.results110, anWB2110]) | (refine DW_skip ?_; simp [hnt, Try.ntmps110, Try.results110, anWB2110]) | (intro hc; (try simp [hnt, Try.ntmps110, Try.results110, anWB2110] at hc); done) | (intro hc; (try simp [hnt, Try.ntmps110, Try.results110, anWB2110] at hc); (first | (exfalso; omega) | skip)) | (refine ⟨?_, ?_⟩; · omega) | omega | apply_assumption -exfalso -symm | (exfalso; omega)))

def endsI (g : Edges) (a b : ByteArray) : Int := if 0 ≤ placeS g.nodes a ∧ 0 ≤ placeS g.nodes b then 0 else 4
def anWB263 : Ann := ⟨[], []⟩
theorem ends63_pure (g : Edges) (a b : ByteArray) : DPure Try.prog 63 [.agg (dGr g), .str a, .str b] (.int .i64 (endsI g a b)) := by
  refine DPure_introF [] (fn := Try.f63) Try.func63 rfl Try.call63 (by simp [Try.ntmps63]) (by simp [mx]) ?_
  intro hwf B hnt
  simp only [argS]
  unfold endsI
  have h1 := contains104_pure g.nodes a
  have h2 := contains104_pure g.nodes b
  have h3 := given_pure true 4
  have h4 := given_pure false 4
  simp only [if_true, Bool.false_eq_true, if_false] at h3 h4
  by_cases c1 : 0 ≤ placeS g.nodes a
  · by_cases c2 : 0 ≤ placeS g.nodes b
    · simp only [c1, c2, decide_true] at h1 h2
      (repeat (first | (refine DW_seq fun K hK => ?_) | (refine DW_r anWB263 Try.mixed (by kernel_rfl) ?_; simp [hnt, Try.ntmps63, Try.results63, anWB263, dGr, c1, c2]; try simp (disch := omega) only [wrap64_in]) | (refine DW_block ?_) | (focus (refine DW_if ?_ ?_ ?_; (· (simp [hnt, Try.ntmps63, Try.results63, anWB263, dGr, c1, c2]; done)); (try (rotate_left; (· (intro hc; (try simp [hnt, Try.ntmps63, Try.results63, anWB263, dGr, c1, c2] at hc); done)))))) | (refine DW_ret ?_; simp [hnt, Try.ntmps63, Try.results63, anWB263, dGr, c1, c2]) | (refine DW_exit ?_; simp [hnt, Try.ntmps63, Try.results63, anWB263, dGr, c1, c2]) | (refine DW_skip ?_; simp [hnt, Try.ntmps63, Try.results63, anWB263, dGr, c1, c2]) | (intro hc; (try simp [hnt, Try.ntmps63, Try.results63, anWB263, dGr, c1, c2] at hc); done) | (intro hc; (try simp [hnt, Try.ntmps63, Try.results63, anWB263, dGr, c1, c2] at hc); (first | (exfalso; omega) | skip)) | (refine callP_mk (h1) ?_; try simp [hnt, Try.ntmps63, Try.results63, anWB263, dGr, c1, c2]) | (refine callP_wk (h1) ?_ ?_; (· (simp; done)); try simp [hnt, Try.ntmps63, Try.results63, anWB263, dGr, c1, c2]) | (refine callP_mk (h2) ?_; try simp [hnt, Try.ntmps63, Try.results63, anWB263, dGr, c1, c2]) | (refine callP_wk (h2) ?_ ?_; (· (simp; done)); try simp [hnt, Try.ntmps63, Try.results63, anWB263, dGr, c1, c2]) | (refine callP_mk (h3) ?_; try simp [hnt, Try.ntmps63, Try.results63, anWB263, dGr, c1, c2]) | (refine callP_wk (h3) ?_ ?_; (· (simp; done)); try simp [hnt, Try.ntmps63, Try.results63, anWB263, dGr, c1, c2]) | (refine callP_mk (h4) ?_; try simp [hnt, Try.ntmps63, Try.results63, anWB263, dGr, c1, c2]) | (refine callP_wk (h4) ?_ ?_; (· (simp; done)); try simp [hnt, Try.ntmps63, Try.results63, anWB263, dGr, c1, c2]) | (refine ⟨?_, ?_⟩; · omega) | omega | apply_assumption -exfalso -symm | (exfalso; omega)))
    · simp only [c1, c2, decide_true, decide_false] at h1 h2
      (repeat (first | (refine DW_seq fun K hK => ?_) | (refine DW_r anWB263 Try.mixed (by kernel_rfl) ?_; simp [hnt, Try.ntmps63, Try.results63, anWB263, dGr, c1, c2]; try simp (disch := omega) only [wrap64_in]) | (refine DW_block ?_) | (focus (refine DW_if ?_ ?_ ?_; (· (simp [hnt, Try.ntmps63, Try.results63, anWB263, dGr, c1, c2]; done)); (try (rotate_left; (· (intro hc; (try simp [hnt, Try.ntmps63, Try.results63, anWB263, dGr, c1, c2] at hc); done)))))) | (refine DW_ret ?_; simp [hnt, Try.ntmps63, Try.results63, anWB263, dGr, c1, c2]) | (refine DW_exit ?_; simp [hnt, Try.ntmps63, Try.results63, anWB263, dGr, c1, c2]) | (refine DW_skip ?_; simp [hnt, Try.ntmps63, Try.results63, anWB263, dGr, c1, c2]) | (intro hc; (try simp [hnt, Try.ntmps63, Try.results63, anWB263, dGr, c1, c2] at hc); done) | (intro hc; (try simp [hnt, Try.ntmps63, Try.results63, anWB263, dGr, c1, c2] at hc); (first | (exfalso; omega) | skip)) | (refine callP_mk (h1) ?_; try simp [hnt, Try.ntmps63, Try.results63, anWB263, dGr, c1, c2]) | (refine callP_wk (h1) ?_ ?_; (· (simp; done)); try simp [hnt, Try.ntmps63, Try.results63, anWB263, dGr, c1, c2]) | (refine callP_mk (h2) ?_; try simp [hnt, Try.ntmps63, Try.results63, anWB263, dGr, c1, c2]) | (refine callP_wk (h2) ?_ ?_; (· (simp; done)); try simp [hnt, Try.ntmps63, Try.results63, anWB263, dGr, c1, c2]) | (refine callP_mk (h3) ?_; try simp [hnt, Try.ntmps63, Try.results63, anWB263, dGr, c1, c2]) | (refine callP_wk (h3) ?_ ?_; (· (simp; done)); try simp [hnt, Try.ntmps63, Try.results63, anWB263, dGr, c1, c2]) | (refine callP_mk (h4) ?_; try simp [hnt, Try.ntmps63, Try.results63, anWB263, dGr, c1, c2]) | (refine callP_wk (h4) ?_ ?_; (· (simp; done)); try simp [hnt, Try.ntmps63, Try.results63, anWB263, dGr, c1, c2]) | (refine ⟨?_, ?_⟩; · omega) | omega | apply_assumption -exfalso -symm | (exfalso; omega)))
  · simp only [c1, decide_false] at h1
    (repeat (first | (refine DW_seq fun K hK => ?_) | (refine DW_r anWB263 Try.mixed (by kernel_rfl) ?_; simp [hnt, Try.ntmps63, Try.results63, anWB263, dGr, c1]; try simp (disch := omega) only [wrap64_in]) | (refine DW_block ?_) | (focus (refine DW_if ?_ ?_ ?_; (· (simp [hnt, Try.ntmps63, Try.results63, anWB263, dGr, c1]; done)); (try (rotate_left; (· (intro hc; (try simp [hnt, Try.ntmps63, Try.results63, anWB263, dGr, c1] at hc); done)))))) | (refine DW_ret ?_; simp [hnt, Try.ntmps63, Try.results63, anWB263, dGr, c1]) | (refine DW_exit ?_; simp [hnt, Try.ntmps63, Try.results63, anWB263, dGr, c1]) | (refine DW_skip ?_; simp [hnt, Try.ntmps63, Try.results63, anWB263, dGr, c1]) | (intro hc; (try simp [hnt, Try.ntmps63, Try.results63, anWB263, dGr, c1] at hc); done) | (intro hc; (try simp [hnt, Try.ntmps63, Try.results63, anWB263, dGr, c1] at hc); (first | (exfalso; omega) | skip)) | (refine callP_mk (h1) ?_; try simp [hnt, Try.ntmps63, Try.results63, anWB263, dGr, c1]) | (refine callP_wk (h1) ?_ ?_; (· (simp; done)); try simp [hnt, Try.ntmps63, Try.results63, anWB263, dGr, c1]) | (refine callP_mk (h2) ?_; try simp [hnt, Try.ntmps63, Try.results63, anWB263, dGr, c1]) | (refine callP_wk (h2) ?_ ?_; (· (simp; done)); try simp [hnt, Try.ntmps63, Try.results63, anWB263, dGr, c1]) | (refine callP_mk (h3) ?_; try simp [hnt, Try.ntmps63, Try.results63, anWB263, dGr, c1]) | (refine callP_wk (h3) ?_ ?_; (· (simp; done)); try simp [hnt, Try.ntmps63, Try.results63, anWB263, dGr, c1]) | (refine callP_mk (h4) ?_; try simp [hnt, Try.ntmps63, Try.results63, anWB263, dGr, c1]) | (refine callP_wk (h4) ?_ ?_; (· (simp; done)); try simp [hnt, Try.ntmps63, Try.results63, anWB263, dGr, c1]) | (refine ⟨?_, ?_⟩; · omega) | omega | apply_assumption -exfalso -symm | (exfalso; omega)))
def anWB270 : Ann := ⟨[], []⟩
theorem ends70_pure (g : Edges) (a b : ByteArray) : DPure Try.prog 70 [.agg (dGr g), .str a, .str b] (.int .i64 (endsI g a b)) := by
  refine DPure_introF [] (fn := Try.f70) Try.func70 rfl Try.call70 (by simp [Try.ntmps70]) (by simp [mx]) ?_
  intro hwf B hnt
  simp only [argS]
  unfold endsI
  have h1 := place110_pure g.nodes a
  have h2 := place110_pure g.nodes b
  by_cases c1 : 0 ≤ placeS g.nodes a
  · have d1 : ¬ placeS g.nodes a < 0 := by omega
    by_cases c2 : 0 ≤ placeS g.nodes b
    · have d2 : ¬ placeS g.nodes b < 0 := by omega
      (repeat (first | (refine DW_seq fun K hK => ?_) | (refine DW_r anWB270 Try.mixed (by kernel_rfl) ?_; simp [hnt, Try.ntmps70, Try.results70, anWB270, dGr, c1, c2, d1, d2]; try simp (disch := omega) only [wrap64_in]) | (refine DW_block ?_) | (focus (refine DW_if ?_ ?_ ?_; (· (simp [hnt, Try.ntmps70, Try.results70, anWB270, dGr, c1, c2, d1, d2]; done)); (try (rotate_left; (· (intro hc; (try simp [hnt, Try.ntmps70, Try.results70, anWB270, dGr, c1, c2, d1, d2] at hc); done)))))) | (refine DW_ret ?_; simp [hnt, Try.ntmps70, Try.results70, anWB270, dGr, c1, c2, d1, d2]) | (refine DW_exit ?_; simp [hnt, Try.ntmps70, Try.results70, anWB270, dGr, c1, c2, d1, d2]) | (refine DW_skip ?_; simp [hnt, Try.ntmps70, Try.results70, anWB270, dGr, c1, c2, d1, d2]) | (intro hc; (try simp [hnt, Try.ntmps70, Try.results70, anWB270, dGr, c1, c2, d1, d2] at hc); done) | (intro hc; (try simp [hnt, Try.ntmps70, Try.results70, anWB270, dGr, c1, c2, d1, d2] at hc); (first | (exfalso; omega) | skip)) | (refine callP_mk (h1) ?_; try simp [hnt, Try.ntmps70, Try.results70, anWB270, dGr, c1, c2, d1, d2]) | (refine callP_wk (h1) ?_ ?_; (· (simp; done)); try simp [hnt, Try.ntmps70, Try.results70, anWB270, dGr, c1, c2, d1, d2]) | (refine callP_mk (h2) ?_; try simp [hnt, Try.ntmps70, Try.results70, anWB270, dGr, c1, c2, d1, d2]) | (refine callP_wk (h2) ?_ ?_; (· (simp; done)); try simp [hnt, Try.ntmps70, Try.results70, anWB270, dGr, c1, c2, d1, d2]) | (refine ⟨?_, ?_⟩; · omega) | omega | apply_assumption -exfalso -symm | (exfalso; omega)))
    · have d2 : placeS g.nodes b < 0 := by omega
      (repeat (first | (refine DW_seq fun K hK => ?_) | (refine DW_r anWB270 Try.mixed (by kernel_rfl) ?_; simp [hnt, Try.ntmps70, Try.results70, anWB270, dGr, c1, c2, d1, d2]; try simp (disch := omega) only [wrap64_in]) | (refine DW_block ?_) | (focus (refine DW_if ?_ ?_ ?_; (· (simp [hnt, Try.ntmps70, Try.results70, anWB270, dGr, c1, c2, d1, d2]; done)); (try (rotate_left; (· (intro hc; (try simp [hnt, Try.ntmps70, Try.results70, anWB270, dGr, c1, c2, d1, d2] at hc); done)))))) | (refine DW_ret ?_; simp [hnt, Try.ntmps70, Try.results70, anWB270, dGr, c1, c2, d1, d2]) | (refine DW_exit ?_; simp [hnt, Try.ntmps70, Try.results70, anWB270, dGr, c1, c2, d1, d2]) | (refine DW_skip ?_; simp [hnt, Try.ntmps70, Try.results70, anWB270, dGr, c1, c2, d1, d2]) | (intro hc; (try simp [hnt, Try.ntmps70, Try.results70, anWB270, dGr, c1, c2, d1, d2] at hc); done) | (intro hc; (try simp [hnt, Try.ntmps70, Try.results70, anWB270, dGr, c1, c2, d1, d2] at hc); (first | (exfalso; omega) | skip)) | (refine callP_mk (h1) ?_; try simp [hnt, Try.ntmps70, Try.results70, anWB270, dGr, c1, c2, d1, d2]) | (refine callP_wk (h1) ?_ ?_; (· (simp; done)); try simp [hnt, Try.ntmps70, Try.results70, anWB270, dGr, c1, c2, d1, d2]) | (refine callP_mk (h2) ?_; try simp [hnt, Try.ntmps70, Try.results70, anWB270, dGr, c1, c2, d1, d2]) | (refine callP_wk (h2) ?_ ?_; (· (simp; done)); try simp [hnt, Try.ntmps70, Try.results70, anWB270, dGr, c1, c2, d1, d2]) | (refine ⟨?_, ?_⟩; · omega) | omega | apply_assumption -exfalso -symm | (exfalso; omega)))
  · have d1 : placeS g.nodes a < 0 := by omega
    (repeat (first | (refine DW_seq fun K hK => ?_) | (refine DW_r anWB270 Try.mixed (by kernel_rfl) ?_; simp [hnt, Try.ntmps70, Try.results70, anWB270, dGr, c1, d1]; try simp (disch := omega) only [wrap64_in]) | (refine DW_block ?_) | (focus (refine DW_if ?_ ?_ ?_; (· (simp [hnt, Try.ntmps70, Try.results70, anWB270, dGr, c1, d1]; done)); (try (rotate_left; (· (intro hc; (try simp [hnt, Try.ntmps70, Try.results70, anWB270, dGr, c1, d1] at hc); done)))))) | (refine DW_ret ?_; simp [hnt, Try.ntmps70, Try.results70, anWB270, dGr, c1, d1]) | (refine DW_exit ?_; simp [hnt, Try.ntmps70, Try.results70, anWB270, dGr, c1, d1]) | (refine DW_skip ?_; simp [hnt, Try.ntmps70, Try.results70, anWB270, dGr, c1, d1]) | (intro hc; (try simp [hnt, Try.ntmps70, Try.results70, anWB270, dGr, c1, d1] at hc); done) | (intro hc; (try simp [hnt, Try.ntmps70, Try.results70, anWB270, dGr, c1, d1] at hc); (first | (exfalso; omega) | skip)) | (refine callP_mk (h1) ?_; try simp [hnt, Try.ntmps70, Try.results70, anWB270, dGr, c1, d1]) | (refine callP_wk (h1) ?_ ?_; (· (simp; done)); try simp [hnt, Try.ntmps70, Try.results70, anWB270, dGr, c1, d1]) | (refine callP_mk (h2) ?_; try simp [hnt, Try.ntmps70, Try.results70, anWB270, dGr, c1, d1]) | (refine callP_wk (h2) ?_ ?_; (· (simp; done)); try simp [hnt, Try.ntmps70, Try.results70, anWB270, dGr, c1, d1]) | (refine ⟨?_, ?_⟩; · omega) | omega | apply_assumption -exfalso -symm | (exfalso; omega)))
end Go.Proofs.Ytihkcegelghcpaa
end

section
/- cmp.Or at three integers; lists without repetitions -/

set_option linter.unusedSimpArgs false
set_option linter.unusedVariables false
namespace Go.Proofs.Ytihkcegelghcpaa
open Go Go.Dm
attribute [local irreducible] DW callP callS
set_option maxRecDepth 100000

def anWC1126 : Ann := ⟨[], []⟩
theorem or3_pure (a b c : Int) : DPure Try.prog 126 [.sl 1 8 [[.int .i64 a], [.int .i64 b], [.int .i64 c]]] (.int .i64 (if a = 0 then (if b = 0 then c else b) else a)) := by
  refine DPure_introF [] (fn := Try.f126) Try.func126 rfl Try.call126 (by simp [Try.ntmps126]) (by simp [mx]) ?_
  intro hwf B hnt
  simp only [argS]
  (repeat (first | (refine DW_seq fun K hK => ?_) | (refine DW_r anWC1126 Try.mixed (by kernel_rfl) ?_; simp [hnt, Try.ntmps126, Try.results126, anWC1126]; try simp (disch := omega) only [wrap64_in]) | (refine DW_block ?_) | (focus (refine DW_if ?_ ?_ ?_; (· (simp [hnt, Try.ntmps126, Try.results126, anWC1126]; done)); (try (rotate_left; (· (intro hc; (try simp [hnt, Try.ntmps126, Try.results126, anWC1126] at hc); done)))))) | (refine DW_ret ?_; simp [hnt, Try.ntmps126, Try.results126, anWC1126]) | (refine DW_exit ?_; simp [hnt, Try.ntmps126, Try.results126, anWC1126]) | (refine DW_skip ?_; simp [hnt, Try.ntmps126, Try.results126, anWC1126]) | (intro hc; (try simp [hnt, Try.ntmps126, Try.results126, anWC1126] at hc); done) | (intro hc; (try simp [hnt, Try.ntmps126, Try.results126, anWC1126] at hc); (first | (exfalso; omega) | skip)) | (refine ⟨?_, ?_⟩; · omega) | omega | apply_assumption -exfalso -symm | (exfalso; omega)))
  refine DW_loop (X := {k : Nat // k ≤ 3 ∧ (0 < k → a = 0) ∧ (1 < k → b = 0) ∧ (2 < k → c = 0)}) (fun k => ⟨[(3, .int .i64 0), (6, .sl 1 8 [[.int .i64 a], [.int .i64 b], [.int .i64 c]]), (7, .int .i64 3), (8, .int .i64 k.1)], []⟩) (fun k => 3 - k.1) ⟨0, by simp⟩ (Sub.lit (by simp)) ?_
  rintro ⟨k, hk, ha, hb, hc⟩
  match k, hk, ha, hb, hc with
  | 0, _, _, _, _ =>
    by_cases h : a = 0
    · (repeat (first | (refine DW_seq fun K hK => ?_) | (refine DW_r anWC1126 Try.mixed (by kernel_rfl) ?_; simp [hnt, Try.ntmps126, Try.results126, anWC1126, h]; try simp (disch := omega) only [wrap64_in]) | (refine DW_block ?_) | (focus (refine DW_if ?_ ?_ ?_; (· (simp [hnt, Try.ntmps126, Try.results126, anWC1126, h]; done)); (try (rotate_left; (· (intro hc; (try simp [hnt, Try.ntmps126, Try.results126, anWC1126, h] at hc); done)))))) | (refine DW_ret ?_; simp [hnt, Try.ntmps126, Try.results126, anWC1126, h]) | (refine DW_exit ?_; simp [hnt, Try.ntmps126, Try.results126, anWC1126, h]) | (refine DW_skip ?_; simp [hnt, Try.ntmps126, Try.results126, anWC1126, h]) | (intro hc; (try simp [hnt, Try.ntmps126, Try.results126, anWC1126, h] at hc); done) | (intro hc; (try simp [hnt, Try.ntmps126, Try.results126, anWC1126, h] at hc); (first | (exfalso; omega) | skip)) | (refine ⟨?_, ?_⟩; · omega) | omega | apply_assumption -exfalso -symm | (exfalso; omega)))
      refine Again.mk ⟨1, by simp [h]⟩ (Sub.lit (by simp)) (by simp)
      (repeat (first | (refine DW_seq fun K hK => ?_) | (refine DW_r anWC1126 Try.mixed (by kernel_rfl) ?_; simp [hnt, Try.ntmps126, Try.results126, anWC1126, h]; try simp (disch := omega) only [wrap64_in]) | (refine DW_block ?_) | (focus (refine DW_if ?_ ?_ ?_; (· (simp [hnt, Try.ntmps126, Try.results126, anWC1126, h]; done)); (try (rotate_left; (· (intro hc; (try simp [hnt, Try.ntmps126, Try.results126, anWC1126, h] at hc); done)))))) | (refine DW_ret ?_; simp [hnt, Try.ntmps126, Try.results126, anWC1126, h]) | (refine DW_exit ?_; simp [hnt, Try.ntmps126, Try.results126, anWC1126, h]) | (refine DW_skip ?_; simp [hnt, Try.ntmps126, Try.results126, anWC1126, h]) | (intro hc; (try simp [hnt, Try.ntmps126, Try.results126, anWC1126, h] at hc); done) | (intro hc; (try simp [hnt, Try.ntmps126, Try.results126, anWC1126, h] at hc); (first | (exfalso; omega) | skip)) | (refine ⟨?_, ?_⟩; · omega) | omega | apply_assumption -exfalso -symm | (exfalso; omega)))
    · have h' : (a != 0) = true := by simpa using h
      (repeat (first | (refine DW_seq fun K hK => ?_) | (refine DW_r anWC1126 Try.mixed (by kernel_rfl) ?_; simp [hnt, Try.ntmps126, Try.results126, anWC1126, h, h']; try simp (disch := omega) only [wrap64_in]) | (refine DW_block ?_) | (focus (refine DW_if ?_ ?_ ?_; (· (simp [hnt, Try.ntmps126, Try.results126, anWC1126, h, h']; done)); (try (rotate_left; (· (intro hc; (try simp [hnt, Try.ntmps126, Try.results126, anWC1126, h, h'] at hc); done)))))) | (refine DW_ret ?_; simp [hnt, Try.ntmps126, Try.results126, anWC1126, h, h']) | (refine DW_exit ?_; simp [hnt, Try.ntmps126, Try.results126, anWC1126, h, h']) | (refine DW_skip ?_; simp [hnt, Try.ntmps126, Try.results126, anWC1126, h, h']) | (intro hc; (try simp [hnt, Try.ntmps126, Try.results126, anWC1126, h, h'] at hc); done) | (intro hc; (try simp [hnt, Try.ntmps126, Try.results126, anWC1126, h, h'] at hc); (first | (exfalso; omega) | skip)) | (refine ⟨?_, ?_⟩; · omega) | omega | apply_assumption -exfalso -symm | (exfalso; omega)))
  | 1, _, ha, _, _ =>
    have ha := ha (by omega)
    by_cases h : b = 0
    · (repeat (first | (refine DW_seq fun K hK => ?_) | (refine DW_r anWC1126 Try.mixed (by kernel_rfl) ?_; simp [hnt, Try.ntmps126, Try.results126, anWC1126, h]; try simp (disch := omega) only [wrap64_in]) | (refine DW_block ?_) | (focus (refine DW_if ?_ ?_ ?_; (· (simp [hnt, Try.ntmps126, Try.results126, anWC1126, h]; done)); (try (rotate_left; (· (intro hc; (try simp [hnt, Try.ntmps126, Try.results126, anWC1126, h] at hc); done)))))) | (refine DW_ret ?_; simp [hnt, Try.ntmps126, Try.results126, anWC1126, h]) | (refine DW_exit ?_; simp [hnt, Try.ntmps126, Try.results126, anWC1126, h]) | (refine DW_skip ?_; simp [hnt, Try.ntmps126, Try.results126, anWC1126, h]) | (intro hc; (try simp [hnt, Try.ntmps126, Try.results126, anWC1126, h] at hc); done) | (intro hc; (try simp [hnt, Try.ntmps126, Try.results126, anWC1126, h] at hc); (first | (exfalso; omega) | skip)) | (refine ⟨?_, ?_⟩; · omega) | omega | apply_assumption -exfalso -symm | (exfalso; omega)))
      refine Again.mk ⟨2, by simp [h, ha]⟩ (Sub.lit (by simp)) (by simp)
      (repeat (first | (refine DW_seq fun K hK => ?_) | (refine DW_r anWC1126 Try.mixed (by kernel_rfl) ?_; simp [hnt, Try.ntmps126, Try.results126, anWC1126, h]; try simp (disch := omega) only [wrap64_in]) | (refine DW_block ?_) | (focus (refine DW_if ?_ ?_ ?_; (· (simp [hnt, Try.ntmps126, Try.results126, anWC1126, h]; done)); (try (rotate_left; (· (intro hc; (try simp [hnt, Try.ntmps126, Try.results126, anWC1126, h] at hc); done)))))) | (refine DW_ret ?_; simp [hnt, Try.ntmps126, Try.results126, anWC1126, h]) | (refine DW_exit ?_; simp [hnt, Try.ntmps126, Try.results126, anWC1126, h]) | (refine DW_skip ?_; simp [hnt, Try.ntmps126, Try.results126, anWC1126, h]) | (intro hc; (try simp [hnt, Try.ntmps126, Try.results126, anWC1126, h] at hc); done) | (intro hc; (try simp [hnt, Try.ntmps126, Try.results126, anWC1126, h] at hc); (first | (exfalso; omega) | skip)) | (refine ⟨?_, ?_⟩; · omega) | omega | apply_assumption -exfalso -symm | (exfalso; omega)))
    · have h' : (b != 0) = true := by simpa using h
      (repeat (first | (refine DW_seq fun K hK => ?_) | (refine DW_r anWC1126 Try.mixed (by kernel_rfl) ?_; simp [hnt, Try.ntmps126, Try.results126, anWC1126, h, h', ha]; try simp (disch := omega) only [wrap64_in]) | (refine DW_block ?_) | (focus (refine DW_if ?_ ?_ ?_; (· (simp [hnt, Try.ntmps126, Try.results126, anWC1126, h, h', ha]; done)); (try (rotate_left; (· (intro hc; (try simp [hnt, Try.ntmps126, Try.results126, anWC1126, h, h', ha] at hc); done)))))) | (refine DW_ret ?_; simp [hnt, Try.ntmps126, Try.results126, anWC1126, h, h', ha]) | (refine DW_exit ?_; simp [hnt, Try.ntmps126, Try.results126, anWC1126, h, h', ha]) | (refine DW_skip ?_; simp [hnt, Try.ntmps126, Try.results126, anWC1126, h, h', ha]) | (intro hc; (try simp [hnt, Try.ntmps126, Try.results126, anWC1126, h, h', ha] at hc); done) | (intro hc; (try simp [hnt, Try.ntmps126, Try.results126, anWC1126, h, h', ha] at hc); (first | (exfalso; omega) | skip)) | (refine ⟨?_, ?_⟩; · omega) | omega | apply_assumption -exfalso -symm | (exfalso; omega)))
  | 2, _, ha, hb, _ =>
    have ha := ha (by omega)
    have hb := hb (by omega)
    by_cases h : c = 0
    · (repeat (first | (refine DW_seq fun K hK => ?_) | (refine DW_r anWC1126 Try.mixed (by kernel_rfl) ?_; simp [hnt, Try.ntmps126, Try.results126, anWC1126, h]; try simp (disch := omega) only [wrap64_in]) | (refine DW_block ?_) | (focus (refine DW_if ?_ ?_ ?_; (· (simp [hnt, Try.ntmps126, Try.results126, anWC1126, h]; done)); (try (rotate_left; (· (intro hc; (try simp [hnt, Try.ntmps126, Try.results126, anWC1126, h] at hc); done)))))) | (refine DW_ret ?_; simp [hnt, Try.ntmps126, Try.results126, anWC1126, h]) | (refine DW_exit ?_; simp [hnt, Try.ntmps126, Try.results126, anWC1126, h]) | (refine DW_skip ?_; simp [hnt, Try.ntmps126, Try.results126, anWC1126, h]) | (intro hc; (try simp [hnt, Try.ntmps126, Try.results126, anWC1126, h] at hc); done) | (intro hc; (try simp [hnt, Try.ntmps126, Try.results126, anWC1126, h] at hc); (first | (exfalso; omega) | skip)) | (refine ⟨?_, ?_⟩; · omega) | omega | apply_assumption -exfalso -symm | (exfalso; omega)))
      refine Again.mk ⟨3, by simp [h, ha, hb]⟩ (Sub.lit (by simp)) (by simp)
      (repeat (first | (refine DW_seq fun K hK => ?_) | (refine DW_r anWC1126 Try.mixed (by kernel_rfl) ?_; simp [hnt, Try.ntmps126, Try.results126, anWC1126, h]; try simp (disch := omega) only [wrap64_in]) | (refine DW_block ?_) | (focus (refine DW_if ?_ ?_ ?_; (· (simp [hnt, Try.ntmps126, Try.results126, anWC1126, h]; done)); (try (rotate_left; (· (intro hc; (try simp [hnt, Try.ntmps126, Try.results126, anWC1126, h] at hc); done)))))) | (refine DW_ret ?_; simp [hnt, Try.ntmps126, Try.results126, anWC1126, h]) | (refine DW_exit ?_; simp [hnt, Try.ntmps126, Try.results126, anWC1126, h]) | (refine DW_skip ?_; simp [hnt, Try.ntmps126, Try.results126, anWC1126, h]) | (intro hc; (try simp [hnt, Try.ntmps126, Try.results126, anWC1126, h] at hc); done) | (intro hc; (try simp [hnt, Try.ntmps126, Try.results126, anWC1126, h] at hc); (first | (exfalso; omega) | skip)) | (refine ⟨?_, ?_⟩; · omega) | omega | apply_assumption -exfalso -symm | (exfalso; omega)))
    · have h' : (c != 0) = true := by simpa using h
      (repeat (first | (refine DW_seq fun K hK => ?_) | (refine DW_r anWC1126 Try.mixed (by kernel_rfl) ?_; simp [hnt, Try.ntmps126, Try.results126, anWC1126, h, h', ha, hb]; try simp (disch := omega) only [wrap64_in]) | (refine DW_block ?_) | (focus (refine DW_if ?_ ?_ ?_; (· (simp [hnt, Try.ntmps126, Try.results126, anWC1126, h, h', ha, hb]; done)); (try (rotate_left; (· (intro hc; (try simp [hnt, Try.ntmps126, Try.results126, anWC1126, h, h', ha, hb] at hc); done)))))) | (refine DW_ret ?_; simp [hnt, Try.ntmps126, Try.results126, anWC1126, h, h', ha, hb]) | (refine DW_exit ?_; simp [hnt, Try.ntmps126, Try.results126, anWC1126, h, h', ha, hb]) | (refine DW_skip ?_; simp [hnt, Try.ntmps126, Try.results126, anWC1126, h, h', ha, hb]) | (intro hc; (try simp [hnt, Try.ntmps126, Try.results126, anWC1126, h, h', ha, hb] at hc); done) | (intro hc; (try simp [hnt, Try.ntmps126, Try.results126, anWC1126, h, h', ha, hb] at hc); (first | (exfalso; omega) | skip)) | (refine ⟨?_, ?_⟩; · omega) | omega | apply_assumption -exfalso -symm | (exfalso; omega)))
  | 3, _, ha, hb, hc =>
    have ha := ha (by omega)
    have hb := hb (by omega)
    have hc := hc (by omega)
    (repeat (first | (refine DW_seq fun K hK => ?_) | (refine DW_r anWC1126 Try.mixed (by kernel_rfl) ?_; simp [hnt, Try.ntmps126, Try.results126, anWC1126, ha, hb, hc]; try simp (disch := omega) only [wrap64_in]) | (refine DW_block ?_) | (focus (refine DW_if ?_ ?_ ?_; (· (simp [hnt, Try.ntmps126, Try.results126, anWC1126, ha, hb, hc]; done)); (try (rotate_left; (· (intro hc; (try simp [hnt, Try.ntmps126, Try.results126, anWC1126, ha, hb, hc] at hc); done)))))) | (refine DW_ret ?_; simp [hnt, Try.ntmps126, Try.results126, anWC1126, ha, hb, hc]) | (refine DW_exit ?_; simp [hnt, Try.ntmps126, Try.results126, anWC1126, ha, hb, hc]) | (refine DW_skip ?_; simp [hnt, Try.ntmps126, Try.results126, anWC1126, ha, hb, hc]) | (intro hc; (try simp [hnt, Try.ntmps126, Try.results126, anWC1126, ha, hb, hc] at hc); done) | (intro hc; (try simp [hnt, Try.ntmps126, Try.results126, anWC1126, ha, hb, hc] at hc); (first | (exfalso; omega) | skip)) | (refine ⟨?_, ?_⟩; · omega) | omega | apply_assumption -exfalso -symm | (exfalso; omega)))


/-- slices.CompactFunc -/
def compGo {α : Type} (e : α → α → Bool) (p : α) : List α → List α
  | [] => []
  | y :: l => if e y p then compGo e y l else y :: compGo e y l
def compL {α : Type} (e : α → α → Bool) : List α → List α
  | [] => []
  | x :: l => x :: compGo e x l
theorem compGo_snoc {α : Type} {e : α → α → Bool} {y : α} : ∀ {l : List α} {p : α}, compGo e p (l ++ [y]) = compGo e p l ++ (if e y (l.getLast?.getD p) then [] else [y])
  | [], p => by by_cases h : e y p <;> simp [compGo, h]
  | x :: l, p => by
    have h := compGo_snoc (e := e) (y := y) (l := l) (p := x)
    have h2 : (x :: l).getLast?.getD p = l.getLast?.getD x := by
      cases l with
      | nil => rfl
      | cons z l => simp [List.getLast?_cons_cons, List.getLast?_eq_some_getLast]
    rw [h2]
    simp only [List.cons_append, compGo]
    split
    · exact h
    · rw [h]; rfl
theorem compL_snoc {α : Type} {e : α → α → Bool} {l : List α} {k : Nat} {x y : α} (h0 : 0 < k) (hx : l[k - 1]? = some x) (hy : l[k]? = some y) : compL e (l.take (k + 1)) = compL e (l.take k) ++ (if e y x then [] else [y]) := by
  rw [List.take_add_one, hy]
  obtain ⟨z, t, hz⟩ : ∃ z t, l.take k = z :: t := by
    cases h : l.take k with
    | nil =>
      have h1 := congrArg List.length h
      have := (List.getElem?_eq_some_iff.1 hy).1
      rw [List.length_take] at h1
      simp only [List.length_nil] at h1
      omega
    | cons z t => exact ⟨z, t, rfl⟩
  have hl : (l.take k).getLast? = some x := by
    rw [List.getLast?_eq_getElem?, List.getElem?_take]
    have := (List.getElem?_eq_some_iff.1 hy).1
    simp only [List.length_take]
    rw [show min k l.length - 1 = k - 1 by omega, if_pos (by omega)]
    exact hx
  rw [hz] at hl ⊢
  have h2 : t.getLast?.getD z = x := by
    cases t with
    | nil => simpa using hl
    | cons a t => simpa [List.getLast?_cons_cons, List.getLast?_eq_some_getLast] using hl
  simp only [Option.toList_some, List.cons_append, compL, compGo_snoc, h2]

end Go.Proofs.Ytihkcegelghcpaa
end

section
/- orders of edges, and where an edge stands -/



set_option linter.unusedSimpArgs false
set_option linter.unusedVariables false
namespace Go.Proofs.Ytihkcegelghcpaa
open Go Go.Dm
attribute [local irreducible] DW callP callS
set_option maxRecDepth 100000

def anWB3134 : Ann := ⟨[], []⟩
theorem order_edge_pure (a b : Edge) : DPure Try.prog 134 [.agg (dEdge a), .agg (dEdge b)] (.int .i64 (eCmp a b)) := by
  refine DPure_introF [] (fn := Try.f134) Try.func134 rfl Try.call134 (by simp [Try.ntmps134]) (by simp [mx]) ?_
  intro hwf B hnt
  simp only [argS]
  have h1 := compare_pure a.fr b.fr
  have h2 := compare_pure a.lb b.lb
  have h3 := compare_pure a.to b.to
  have h4 := or3_pure (sCmp a.fr b.fr) (sCmp a.lb b.lb) (sCmp a.to b.to)
  unfold eCmp
  (repeat (first | (refine DW_seq fun K hK => ?_) | (refine DW_r anWB3134 Try.mixed (by kernel_rfl) ?_; simp [hnt, Try.ntmps134, Try.results134, anWB3134, dEdge]; try simp (disch := omega) only [wrap64_in]) | (refine DW_block ?_) | (focus (refine DW_if ?_ ?_ ?_; (· (simp [hnt, Try.ntmps134, Try.results134, anWB3134, dEdge]; done)); (try (rotate_left; (· (intro hc; (try simp [hnt, Try.ntmps134, Try.results134, anWB3134, dEdge] at hc); done)))))) | (refine DW_ret ?_; simp [hnt, Try.ntmps134, Try.results134, anWB3134, dEdge]) | (refine DW_exit ?_; simp [hnt, Try.ntmps134, Try.results134, anWB3134, dEdge]) | (refine DW_skip ?_; simp [hnt, Try.ntmps134, Try.results134, anWB3134, dEdge]) | (intro hc; (try simp [hnt, Try.ntmps134, Try.results134, anWB3134, dEdge] at hc); done) | (intro hc; (try simp [hnt, Try.ntmps134, Try.results134, anWB3134, dEdge] at hc); (first | (exfalso; omega) | skip)) | (refine callP_mk (h1) ?_; try simp [hnt, Try.ntmps134, Try.results134, anWB3134, dEdge]) | (refine callP_wk (h1) ?_ ?_; (· (simp; done)); try simp [hnt, Try.ntmps134, Try.results134, anWB3134, dEdge]) | (refine callP_mk (h2) ?_; try simp [hnt, Try.ntmps134, Try.results134, anWB3134, dEdge]) | (refine callP_wk (h2) ?_ ?_; (· (simp; done)); try simp [hnt, Try.ntmps134, Try.results134, anWB3134, dEdge]) | (refine callP_mk (h3) ?_; try simp [hnt, Try.ntmps134, Try.results134, anWB3134, dEdge]) | (refine callP_wk (h3) ?_ ?_; (· (simp; done)); try simp [hnt, Try.ntmps134, Try.results134, anWB3134, dEdge]) | (refine callP_mk (h4) ?_; try simp [hnt, Try.ntmps134, Try.results134, anWB3134, dEdge]) | (refine callP_wk (h4) ?_ ?_; (· (simp; done)); try simp [hnt, Try.ntmps134, Try.results134, anWB3134, dEdge]) | (refine ⟨?_, ?_⟩; · omega) | omega | apply_assumption -exfalso -symm | (exfalso; omega)))
def anWB3143 : Ann := ⟨[], []⟩
theorem before_pure (a b : Edge) : DPure Try.prog 143 [.agg (dEdge a), .agg (dEdge b)] (.bool (eLess a b)) := by
  refine DPure_introF [] (fn := Try.f143) Try.func143 rfl Try.call143 (by simp [Try.ntmps143]) (by simp [mx]) ?_
  intro hwf B hnt
  simp only [argS]
  unfold eLess
  by_cases h1 : a.fr = b.fr
  · by_cases h2 : a.lb = b.lb
    · (repeat (first | (refine DW_seq fun K hK => ?_) | (refine DW_r anWB3143 Try.mixed (by kernel_rfl) ?_; simp [hnt, Try.ntmps143, Try.results143, anWB3143, dEdge, h1, h2, sLess]; try simp (disch := omega) only [wrap64_in]) | (refine DW_block ?_) | (focus (refine DW_if ?_ ?_ ?_; (· (simp [hnt, Try.ntmps143, Try.results143, anWB3143, dEdge, h1, h2, sLess]; done)); (try (rotate_left; (· (intro hc; (try simp [hnt, Try.ntmps143, Try.results143, anWB3143, dEdge, h1, h2, sLess] at hc); done)))))) | (refine DW_ret ?_; simp [hnt, Try.ntmps143, Try.results143, anWB3143, dEdge, h1, h2, sLess]) | (refine DW_exit ?_; simp [hnt, Try.ntmps143, Try.results143, anWB3143, dEdge, h1, h2, sLess]) | (refine DW_skip ?_; simp [hnt, Try.ntmps143, Try.results143, anWB3143, dEdge, h1, h2, sLess]) | (intro hc; (try simp [hnt, Try.ntmps143, Try.results143, anWB3143, dEdge, h1, h2, sLess] at hc); done) | (intro hc; (try simp [hnt, Try.ntmps143, Try.results143, anWB3143, dEdge, h1, h2, sLess] at hc); (first | (exfalso; omega) | skip)) | (refine ⟨?_, ?_⟩; · omega) | omega | apply_assumption -exfalso -symm | (exfalso; omega)))
    · (repeat (first | (refine DW_seq fun K hK => ?_) | (refine DW_r anWB3143 Try.mixed (by kernel_rfl) ?_; simp [hnt, Try.ntmps143, Try.results143, anWB3143, dEdge, h1, h2, sLess]; try simp (disch := omega) only [wrap64_in]) | (refine DW_block ?_) | (focus (refine DW_if ?_ ?_ ?_; (· (simp [hnt, Try.ntmps143, Try.results143, anWB3143, dEdge, h1, h2, sLess]; done)); (try (rotate_left; (· (intro hc; (try simp [hnt, Try.ntmps143, Try.results143, anWB3143, dEdge, h1, h2, sLess] at hc); done)))))) | (refine DW_ret ?_; simp [hnt, Try.ntmps143, Try.results143, anWB3143, dEdge, h1, h2, sLess]) | (refine DW_exit ?_; simp [hnt, Try.ntmps143, Try.results143, anWB3143, dEdge, h1, h2, sLess]) | (refine DW_skip ?_; simp [hnt, Try.ntmps143, Try.results143, anWB3143, dEdge, h1, h2, sLess]) | (intro hc; (try simp [hnt, Try.ntmps143, Try.results143, anWB3143, dEdge, h1, h2, sLess] at hc); done) | (intro hc; (try simp [hnt, Try.ntmps143, Try.results143, anWB3143, dEdge, h1, h2, sLess] at hc); (first | (exfalso; omega) | skip)) | (refine ⟨?_, ?_⟩; · omega) | omega | apply_assumption -exfalso -symm | (exfalso; omega)))
  · (repeat (first | (refine DW_seq fun K hK => ?_) | (refine DW_r anWB3143 Try.mixed (by kernel_rfl) ?_; simp [hnt, Try.ntmps143, Try.results143, anWB3143, dEdge, h1, sLess]; try simp (disch := omega) only [wrap64_in]) | (refine DW_block ?_) | (focus (refine DW_if ?_ ?_ ?_; (· (simp [hnt, Try.ntmps143, Try.results143, anWB3143, dEdge, h1, sLess]; done)); (try (rotate_left; (· (intro hc; (try simp [hnt, Try.ntmps143, Try.results143, anWB3143, dEdge, h1, sLess] at hc); done)))))) | (refine DW_ret ?_; simp [hnt, Try.ntmps143, Try.results143, anWB3143, dEdge, h1, sLess]) | (refine DW_exit ?_; simp [hnt, Try.ntmps143, Try.results143, anWB3143, dEdge, h1, sLess]) | (refine DW_skip ?_; simp [hnt, Try.ntmps143, Try.results143, anWB3143, dEdge, h1, sLess]) | (intro hc; (try simp [hnt, Try.ntmps143, Try.results143, anWB3143, dEdge, h1, sLess] at hc); done) | (intro hc; (try simp [hnt, Try.ntmps143, Try.results143, anWB3143, dEdge, h1, sLess] at hc); (first | (exfalso; omega) | skip)) | (refine ⟨?_, ?_⟩; · omega) | omega | apply_assumption -exfalso -symm | (exfalso; omega)))

def eqE (a b : Edge) : Bool := decide (a = b)
def placeE (l : List Edge) (s : Edge) : Int := if l.any (fun x => eqE s x) then ((l.findIdx fun x => eqE s x : Nat) : Int) else -1
theorem placeE_some {l : List Edge} {s : Edge} {k : Nat} (hk : k < l.length) (h : l[k] = s) (hno : ∀ i x, i < k → l[i]? = some x → s ≠ x) : placeE l s = k := by
  unfold placeE
  have hb : eqE s l[k] = true := by rw [h]; simp [eqE]
  rw [if_pos (List.any_eq_true.2 ⟨l[k], List.getElem_mem _, hb⟩)]
  congr 1
  rw [List.findIdx_eq hk]
  refine ⟨hb, fun i hi => ?_⟩
  have := hno i _ hi (List.getElem?_eq_getElem (by omega))
  simpa [eqE] using this
theorem placeE_none {l : List Edge} {s : Edge} (hno : ∀ i x, i < l.length → l[i]? = some x → s ≠ x) : placeE l s = -1 := by
  unfold placeE
  rw [if_neg]
  simp only [Bool.not_eq_true, List.any_eq_false]
  intro x hx
  obtain ⟨i, hi, rfl⟩ := List.getElem_of_mem hx
  have := hno i _ hi (List.getElem?_eq_getElem hi)
  simpa [eqE] using this
def anWB3140 : Ann := ⟨[], []⟩
theorem index140_pure (l : List Edge) (s : Edge) : DPure Try.prog 140 [dEds l, .agg (dEdge s)] (.int .i64 (placeE l s)) := by
  refine DPure_introF [] (fn := Try.f140) Try.func140 rfl Try.call140 (by simp [Try.ntmps140]) (by simp [mx]) ?_
  intro hwf B hnt
  have hlen := len_eds hwf.1
  clear hwf
  simp only [argS]
  obtain ⟨R, hR⟩ : ∃ R, R = placeE l s := ⟨_, rfl⟩
  rw [← hR]
  (repeat (first | (refine DW_seq fun K hK => ?_) | (refine DW_r anWB3140 Try.mixed (by kernel_rfl) ?_; simp [hnt, Try.ntmps140, Try.results140, anWB3140, dEdge]; try simp (disch := omega) only [wrap64_in]) | (refine DW_block ?_) | (focus (refine DW_if ?_ ?_ ?_; (· (simp [hnt, Try.ntmps140, Try.results140, anWB3140, dEdge]; done)); (try (rotate_left; (· (intro hc; (try simp [hnt, Try.ntmps140, Try.results140, anWB3140, dEdge] at hc); done)))))) | (refine DW_ret ?_; simp [hnt, Try.ntmps140, Try.results140, anWB3140, dEdge]) | (refine DW_exit ?_; simp [hnt, Try.ntmps140, Try.results140, anWB3140, dEdge]) | (refine DW_skip ?_; simp [hnt, Try.ntmps140, Try.results140, anWB3140, dEdge]) | (intro hc; (try simp [hnt, Try.ntmps140, Try.results140, anWB3140, dEdge] at hc); done) | (intro hc; (try simp [hnt, Try.ntmps140, Try.results140, anWB3140, dEdge] at hc); (first | (exfalso; omega) | skip)) | (refine ⟨?_, ?_⟩; · omega) | omega | apply_assumption -exfalso -symm | (exfalso; omega)))
  refine DW_loop (X := {k : Nat // k ≤ l.length ∧ ∀ i x, i < k → l[i]? = some x → s ≠ x}) (fun x => ⟨[(0, dEds l), (3, .ref (dEdge s)), (7, .int .i64 l.length), (8, .int .i64 x.1)], []⟩) (fun x => l.length - x.1) ⟨0, by simp⟩ (Sub.lit (by simp [dEdge])) ?_
  rintro ⟨k, hk, hno⟩
  by_cases hlt : k < l.length
  · obtain ⟨x, hx, hx', hxm⟩ := at_lt' hlt
    by_cases hb : s = x
    · subst hb
      have hRk : R = k := by rw [hR]; exact placeE_some hlt hx' hno
      subst hRk
      (repeat (first | (refine DW_seq fun K hK => ?_) | (refine DW_r anWB3140 Try.mixed (by kernel_rfl) ?_; simp [hnt, Try.ntmps140, Try.results140, anWB3140, dEdge, hlt, hx', hx]; try simp (disch := omega) only [wrap64_in]) | (refine DW_block ?_) | (focus (refine DW_if ?_ ?_ ?_; (· (simp [hnt, Try.ntmps140, Try.results140, anWB3140, dEdge, hlt, hx', hx]; done)); (try (rotate_left; (· (intro hc; (try simp [hnt, Try.ntmps140, Try.results140, anWB3140, dEdge, hlt, hx', hx] at hc); done)))))) | (refine DW_ret ?_; simp [hnt, Try.ntmps140, Try.results140, anWB3140, dEdge, hlt, hx', hx]) | (refine DW_exit ?_; simp [hnt, Try.ntmps140, Try.results140, anWB3140, dEdge, hlt, hx', hx]) | (refine DW_skip ?_; simp [hnt, Try.ntmps140, Try.results140, anWB3140, dEdge, hlt, hx', hx]) | (intro hc; (try simp [hnt, Try.ntmps140, Try.results140, anWB3140, dEdge, hlt, hx', hx] at hc); done) | (intro hc; (try simp [hnt, Try.ntmps140, Try.results140, anWB3140, dEdge, hlt, hx', hx] at hc); (first | (exfalso; omega) | skip)) | (refine ⟨?_, ?_⟩; · omega) | omega | apply_assumption -exfalso -symm | (exfalso; omega)))
    · have hno' : ∀ i y, i < k + 1 → l[i]? = some y → s ≠ y := by
        intro i y hi hy
        by_cases hik : i = k
        · subst hik; rw [hx] at hy; simp only [Option.some.injEq] at hy; subst hy; exact hb
        · exact hno i y (by omega) hy
      have hne : (s.fr == x.fr && (s.lb == x.lb && s.to == x.to)) = false := by
        rw [Bool.eq_false_iff]
        intro hh
        simp only [Bool.and_eq_true, beq_iff_eq] at hh
        apply hb
        cases s; cases x
        simp only at hh
        rw [hh.1, hh.2.1, hh.2.2]
      (repeat (first | (refine DW_seq fun K hK => ?_) | (refine DW_r anWB3140 Try.mixed (by kernel_rfl) ?_; simp [hnt, Try.ntmps140, Try.results140, anWB3140, dEdge, hlt, hx', hx, hne]; try simp (disch := omega) only [wrap64_in]) | (refine DW_block ?_) | (focus (refine DW_if ?_ ?_ ?_; (· (simp [hnt, Try.ntmps140, Try.results140, anWB3140, dEdge, hlt, hx', hx, hne]; done)); (try (rotate_left; (· (intro hc; (try simp [hnt, Try.ntmps140, Try.results140, anWB3140, dEdge, hlt, hx', hx, hne] at hc); done)))))) | (refine DW_ret ?_; simp [hnt, Try.ntmps140, Try.results140, anWB3140, dEdge, hlt, hx', hx, hne]) | (refine DW_exit ?_; simp [hnt, Try.ntmps140, Try.results140, anWB3140, dEdge, hlt, hx', hx, hne]) | (refine DW_skip ?_; simp [hnt, Try.ntmps140, Try.results140, anWB3140, dEdge, hlt, hx', hx, hne]) | (intro hc; (try simp [hnt, Try.ntmps140, Try.results140, anWB3140, dEdge, hlt, hx', hx, hne] at hc); done) | (intro hc; (try simp [hnt, Try.ntmps140, Try.results140, anWB3140, dEdge, hlt, hx', hx, hne] at hc); (first | (exfalso; omega) | skip)) | (refine ⟨?_, ?_⟩; · omega) | omega | apply_assumption -exfalso -symm | (exfalso; omega)))
      exact Again.mk ⟨k + 1, by omega, hno'⟩ (Sub.lit (by simp [dEdge])) (by simp; omega)
      (repeat (first | (refine DW_seq fun K hK => ?_) | (refine DW_r anWB3140 Try.mixed (by kernel_rfl) ?_; simp [hnt, Try.ntmps140, Try.results140, anWB3140]; try simp (disch := omega) only [wrap64_in]) | (refine DW_block ?_) | (focus (refine DW_if ?_ ?_ ?_; (· (simp [hnt, Try.ntmps140, Try.results140, anWB3140]; done)); (try (rotate_left; (· (intro hc; (try simp [hnt, Try.ntmps140, Try.results140, anWB3140] at hc); done)))))) | (refine DW_ret ?_; simp [hnt, Try.ntmps140, Try.results140, anWB3140]) | (refine DW_exit ?_; simp [hnt, Try.ntmps140, Try.results140, anWB3140]) | (refine DW_skip ?_; simp [hnt, Try.ntmps140, Try.results140, anWB3140]) | (intro hc; (try simp [hnt, Try.ntmps140, Try.results140, anWB3140] at hc); done) | (intro hc; (try simp [hnt, Try.ntmps140, Try.results140, anWB3140] at hc); (first | (exfalso; omega) | skip)) | (refine ⟨?_, ?_⟩; · omega) | omega | apply_assumption -exfalso -symm | (exfalso; omega)))
  · have hkk : k = l.length := by omega
    subst hkk
    have hRk : R = -1 := by rw [hR]; exact placeE_none hno
    subst hRk
    (repeat (first | (refine DW_seq fun K hK => ?_) | (refine DW_r anWB3140 Try.mixed (by kernel_rfl) ?_; simp [hnt, Try.ntmps140, Try.results140, anWB3140]; try simp (disch := omega) only [wrap64_in]) | (refine DW_block ?_) | (focus (refine DW_if ?_ ?_ ?_; (· (simp [hnt, Try.ntmps140, Try.results140, anWB3140]; done)); (try (rotate_left; (· (intro hc; (try simp [hnt, Try.ntmps140, Try.results140, anWB3140] at hc); done)))))) | (refine DW_ret ?_; simp [hnt, Try.ntmps140, Try.results140, anWB3140]) | (refine DW_exit ?_; simp [hnt, Try.ntmps140, Try.results140, anWB3140]) | (refine DW_skip ?_; simp [hnt, Try.ntmps140, Try.results140, anWB3140]) | (intro hc; (try simp [hnt, Try.ntmps140, Try.results140, anWB3140] at hc); done) | (intro hc; (try simp [hnt, Try.ntmps140, Try.results140, anWB3140] at hc); (first | (exfalso; omega) | skip)) | (refine ⟨?_, ?_⟩; · omega) | omega | apply_assumption -exfalso -symm | (exfalso; omega)))
end Go.Proofs.Ytihkcegelghcpaa
end

section
/- The data machine, second make, part Sc: scopes through which the run goes without a goto. -/


set_option linter.unusedSimpArgs false
set_option linter.unusedVariables false
namespace Go

section
variable {F : Fence} {n : Nat} {P : Program} {Q : Exit → Act → World → Prop} {a : Act} {w : World}
theorem stepR_scope {b : Frame} {k : List Item} {cs : List Frame} {c : Code} : step P (lone (b.atR a (.code (.scope c) :: k)) cs w) = .next (lone (b.atR a (.code c :: .inScope c :: k)) cs w) :=
  step_lone_go (by simp [stepG, stepG.exec, Frame.atR])
theorem stepR_inScope {b : Frame} {k : List Item} {cs : List Frame} {c : Code} : step P (lone (b.atR a (.inScope c :: k)) cs w) = .next (lone (b.atR a k) cs w) :=
  step_lone_go (by simp [stepG, stepG.exec, Frame.atR])
theorem wpIn_scope_straight {c : Code} (h : c.wpIn F n P (Exit.noGoto Q) a w) : (Code.scope c).wpIn F n P Q a w := by
  intro b k cs hro hb hr
  have h0 : (lone (b.atR a (.code (.scope c) :: k)) cs w).fenced P F := fenced_calm hb hr rfl
  obtain ⟨e, a₁, w₁, hq, harr⟩ := h b (.inScope c :: k) cs hro hb hr
  cases e with
  | normal => exact ⟨.normal, a₁, w₁, hq, .head h0 stepR_scope (StepsIn.trans harr (.one (fenced_calm hb hr rfl) stepR_inScope))⟩
  | exit id =>
    have hx : exitTo id (.inScope c :: k) = exitTo id k := by simp [exitTo]
    exact ⟨_, a₁, w₁, hq, fun k' hk => .head h0 stepR_scope (harr.1 k' (by rw [hx]; exact hk)),
      fun hr' hk => let ⟨k₁, h1, h2⟩ := harr.2 hr' (by rw [hx]; exact hk); ⟨k₁, h1, .head h0 stepR_scope h2⟩⟩
  | goto l => exact hq.elim
  | ret => exact ⟨_, a₁, w₁, hq, .of_steps (.one h0 stepR_scope) harr⟩
  | panic ch => exact ⟨_, a₁, w₁, hq, .of_steps (.one h0 stepR_scope) harr⟩
  | outgrown => exact ⟨_, a₁, w₁, hq, .of_steps (.one h0 stepR_scope) harr⟩
end
end Go
namespace Go.Dm
def Dscope (Q : Exit → DS → Prop) : Exit → DS → Prop
  | .goto _, _ => False
  | e, s => Q e s
theorem DW_scope {P : Program} {B : Base} {Q : Exit → DS → Prop} {s : DS} {c : Code} (h : DW P B c (Dscope Q) s) : DW P B (.scope c) Q s := by
  intro a w loc R
  refine wpIn_scope_straight (wpIn_mono (h a w loc R) ?_)
  rintro e a' w' ⟨s', loc', hq, R'⟩
  cases e <;> first
    | exact hq.elim
    | exact ⟨s', loc', hq, R'⟩
attribute [simp] Dscope
end Go.Dm
end

section
/- ways: joined, first, Spell, SameTexts -/


set_option linter.unusedSimpArgs false
set_option linter.unusedVariables false
namespace Go.Proofs.Ytihkcegelghcpaa
open Go Go.Dm
attribute [local irreducible] DW callP callS
set_option maxRecDepth 100000

def anWB4105 : Ann := ⟨[], []⟩
theorem contains105_pure (l : List Edge) (s : Edge) : DPure Try.prog 105 [dEds l, .agg (dEdge s)] (.bool (decide (0 ≤ placeE l s))) := by
  refine DPure_introF [] (fn := Try.f105) Try.func105 rfl Try.call105 (by simp [Try.ntmps105]) (by simp [mx]) ?_
  intro hwf B hnt
  simp only [argS]
  have h := index140_pure l s
  simp only [dEdge] at h
  (repeat (first | (refine DW_seq fun K hK => ?_) | (refine DW_r anWB4105 Try.mixed (by kernel_rfl) ?_; simp [hnt, Try.ntmps105, Try.results105, anWB4105, dEdge]; try simp (disch := omega) only [wrap64_in]) | (refine DW_block ?_) | (focus (refine DW_if ?_ ?_ ?_; (· (simp [hnt, Try.ntmps105, Try.results105, anWB4105, dEdge]; done)); (try (rotate_left; (· (intro hc; (try simp [hnt, Try.ntmps105, Try.results105, anWB4105, dEdge] at hc); done)))))) | (refine DW_ret ?_; simp [hnt, Try.ntmps105, Try.results105, anWB4105, dEdge]) | (refine DW_exit ?_; simp [hnt, Try.ntmps105, Try.results105, anWB4105, dEdge]) | (refine DW_skip ?_; simp [hnt, Try.ntmps105, Try.results105, anWB4105, dEdge]) | (intro hc; (try simp [hnt, Try.ntmps105, Try.results105, anWB4105, dEdge] at hc); done) | (intro hc; (try simp [hnt, Try.ntmps105, Try.results105, anWB4105, dEdge] at hc); (first | (exfalso; omega) | skip)) | (refine callP_mk (h) ?_; try simp [hnt, Try.ntmps105, Try.results105, anWB4105, dEdge]) | (refine callP_wk (h) ?_ ?_; (· (simp; done)); try simp [hnt, Try.ntmps105, Try.results105, anWB4105, dEdge]) | (refine ⟨?_, ?_⟩; · omega) | omega | apply_assumption -exfalso -symm | (exfalso; omega)))
def anWB459 : Ann := ⟨[], []⟩
theorem first4_pure (g1 g2 g3 g4 : FuncId) (c1 c2 c3 c4 : List DVal) (e1 e2 e3 e4 : Int) (h1 : DPure Try.prog g1 c1 (.int .i64 e1)) (h2 : e1 = 0 → DPure Try.prog g2 c2 (.int .i64 e2)) (h3 : e1 = 0 → e2 = 0 → DPure Try.prog g3 c3 (.int .i64 e3)) (h4 : e1 = 0 → e2 = 0 → e3 = 0 → DPure Try.prog g4 c4 (.int .i64 e4)) :
    DPure Try.prog 59 [.sl 1 8 [[.fn (.func g1) [] c1], [.fn (.func g2) [] c2], [.fn (.func g3) [] c3], [.fn (.func g4) [] c4]]] (.int .i64 (if e1 = 0 then (if e2 = 0 then (if e3 = 0 then e4 else e3) else e2) else e1)) := by
  refine DPure_introF [] (fn := Try.f59) Try.func59 rfl Try.call59 (by simp [Try.ntmps59]) (by simp [mx]) ?_
  intro hwf B hnt
  simp only [argS]
  clear hwf
  obtain ⟨R, hR⟩ : ∃ R, R = (if e1 = 0 then (if e2 = 0 then (if e3 = 0 then e4 else e3) else e2) else e1) := ⟨_, rfl⟩
  rw [← hR]
  (repeat (first | (refine DW_seq fun K hK => ?_) | (refine DW_r anWB459 Try.mixed (by kernel_rfl) ?_; simp [hnt, Try.ntmps59, Try.results59, anWB459]; try simp (disch := omega) only [wrap64_in]) | (refine DW_block ?_) | (focus (refine DW_if ?_ ?_ ?_; (· (simp [hnt, Try.ntmps59, Try.results59, anWB459]; done)); (try (rotate_left; (· (intro hc; (try simp [hnt, Try.ntmps59, Try.results59, anWB459] at hc); done)))))) | (refine DW_ret ?_; simp [hnt, Try.ntmps59, Try.results59, anWB459]) | (refine DW_exit ?_; simp [hnt, Try.ntmps59, Try.results59, anWB459]) | (refine DW_skip ?_; simp [hnt, Try.ntmps59, Try.results59, anWB459]) | (intro hc; (try simp [hnt, Try.ntmps59, Try.results59, anWB459] at hc); done) | (intro hc; (try simp [hnt, Try.ntmps59, Try.results59, anWB459] at hc); (first | (exfalso; omega) | skip)) | (refine ⟨?_, ?_⟩; · omega) | omega | apply_assumption -exfalso -symm | (exfalso; omega)))
  refine DW_loop (X := {k : Nat // k ≤ 4 ∧ (1 ≤ k → e1 = 0) ∧ (2 ≤ k → e2 = 0) ∧ (3 ≤ k → e3 = 0) ∧ (4 ≤ k → e4 = 0)}) (fun x => ⟨[(6, .sl 1 8 [[.fn (.func g1) [] c1], [.fn (.func g2) [] c2], [.fn (.func g3) [] c3], [.fn (.func g4) [] c4]]), (7, .int .i64 4), (8, .int .i64 x.1)], []⟩) (fun x => 4 - x.1) ⟨0, by simp⟩ (Sub.lit (by simp)) ?_
  rintro ⟨k, hk, q1, q2, q3, q4⟩
  match k, hk, q1, q2, q3, q4 with
  | 0, _, _, _, _, _ =>
    by_cases h : e1 = 0
    · subst h
      (repeat (first | (refine DW_seq fun K hK => ?_) | (refine DW_r anWB459 Try.mixed (by kernel_rfl) ?_; simp [hnt, Try.ntmps59, Try.results59, anWB459]; try simp (disch := omega) only [wrap64_in]) | (refine DW_block ?_) | (focus (refine DW_if ?_ ?_ ?_; (· (simp [hnt, Try.ntmps59, Try.results59, anWB459]; done)); (try (rotate_left; (· (intro hc; (try simp [hnt, Try.ntmps59, Try.results59, anWB459] at hc); done)))))) | (refine DW_ret ?_; simp [hnt, Try.ntmps59, Try.results59, anWB459]) | (refine DW_exit ?_; simp [hnt, Try.ntmps59, Try.results59, anWB459]) | (refine DW_skip ?_; simp [hnt, Try.ntmps59, Try.results59, anWB459]) | (intro hc; (try simp [hnt, Try.ntmps59, Try.results59, anWB459] at hc); done) | (intro hc; (try simp [hnt, Try.ntmps59, Try.results59, anWB459] at hc); (first | (exfalso; omega) | skip)) | (refine callP_mk (h1) ?_; try simp [hnt, Try.ntmps59, Try.results59, anWB459]) | (refine callP_wk (h1) ?_ ?_; (· (simp; done)); try simp [hnt, Try.ntmps59, Try.results59, anWB459]) | (refine ⟨?_, ?_⟩; · omega) | omega | apply_assumption -exfalso -symm | (exfalso; omega)))
      exact Again.mk ⟨1, by omega, by simp, by omega, by omega, by omega⟩ (Sub.lit (by simp)) (by simp)
      (repeat (first | (refine DW_seq fun K hK => ?_) | (refine DW_r anWB459 Try.mixed (by kernel_rfl) ?_; simp [hnt, Try.ntmps59, Try.results59, anWB459]; try simp (disch := omega) only [wrap64_in]) | (refine DW_block ?_) | (focus (refine DW_if ?_ ?_ ?_; (· (simp [hnt, Try.ntmps59, Try.results59, anWB459]; done)); (try (rotate_left; (· (intro hc; (try simp [hnt, Try.ntmps59, Try.results59, anWB459] at hc); done)))))) | (refine DW_ret ?_; simp [hnt, Try.ntmps59, Try.results59, anWB459]) | (refine DW_exit ?_; simp [hnt, Try.ntmps59, Try.results59, anWB459]) | (refine DW_skip ?_; simp [hnt, Try.ntmps59, Try.results59, anWB459]) | (intro hc; (try simp [hnt, Try.ntmps59, Try.results59, anWB459] at hc); done) | (intro hc; (try simp [hnt, Try.ntmps59, Try.results59, anWB459] at hc); (first | (exfalso; omega) | skip)) | (refine callP_mk (h1) ?_; try simp [hnt, Try.ntmps59, Try.results59, anWB459]) | (refine callP_wk (h1) ?_ ?_; (· (simp; done)); try simp [hnt, Try.ntmps59, Try.results59, anWB459]) | (refine ⟨?_, ?_⟩; · omega) | omega | apply_assumption -exfalso -symm | (exfalso; omega)))
    · have hRk : R = e1 := by rw [hR]; simp [h]
      subst hRk
      (repeat (first | (refine DW_seq fun K hK => ?_) | (refine DW_r anWB459 Try.mixed (by kernel_rfl) ?_; simp [hnt, Try.ntmps59, Try.results59, anWB459, h]; try simp (disch := omega) only [wrap64_in]) | (refine DW_block ?_) | (focus (refine DW_if ?_ ?_ ?_; (· (simp [hnt, Try.ntmps59, Try.results59, anWB459, h]; done)); (try (rotate_left; (· (intro hc; (try simp [hnt, Try.ntmps59, Try.results59, anWB459, h] at hc); done)))))) | (refine DW_ret ?_; simp [hnt, Try.ntmps59, Try.results59, anWB459, h]) | (refine DW_exit ?_; simp [hnt, Try.ntmps59, Try.results59, anWB459, h]) | (refine DW_skip ?_; simp [hnt, Try.ntmps59, Try.results59, anWB459, h]) | (intro hc; (try simp [hnt, Try.ntmps59, Try.results59, anWB459, h] at hc); done) | (intro hc; (try simp [hnt, Try.ntmps59, Try.results59, anWB459, h] at hc); (first | (exfalso; omega) | skip)) | (refine callP_mk (h1) ?_; try simp [hnt, Try.ntmps59, Try.results59, anWB459, h]) | (refine callP_wk (h1) ?_ ?_; (· (simp; done)); try simp [hnt, Try.ntmps59, Try.results59, anWB459, h]) | (refine ⟨?_, ?_⟩; · omega) | omega | apply_assumption -exfalso -symm | (exfalso; omega)))
  | 1, _, q1, _, _, _ =>
    have q1 := q1 (by omega)
    have k2 := h2 q1
    clear h2 h3 h4
    subst q1
    by_cases h : e2 = 0
    · subst h
      (repeat (first | (refine DW_seq fun K hK => ?_) | (refine DW_r anWB459 Try.mixed (by kernel_rfl) ?_; simp [hnt, Try.ntmps59, Try.results59, anWB459]; try simp (disch := omega) only [wrap64_in]) | (refine DW_block ?_) | (focus (refine DW_if ?_ ?_ ?_; (· (simp [hnt, Try.ntmps59, Try.results59, anWB459]; done)); (try (rotate_left; (· (intro hc; (try simp [hnt, Try.ntmps59, Try.results59, anWB459] at hc); done)))))) | (refine DW_ret ?_; simp [hnt, Try.ntmps59, Try.results59, anWB459]) | (refine DW_exit ?_; simp [hnt, Try.ntmps59, Try.results59, anWB459]) | (refine DW_skip ?_; simp [hnt, Try.ntmps59, Try.results59, anWB459]) | (intro hc; (try simp [hnt, Try.ntmps59, Try.results59, anWB459] at hc); done) | (intro hc; (try simp [hnt, Try.ntmps59, Try.results59, anWB459] at hc); (first | (exfalso; omega) | skip)) | (refine callP_mk (k2) ?_; try simp [hnt, Try.ntmps59, Try.results59, anWB459]) | (refine callP_wk (k2) ?_ ?_; (· (simp; done)); try simp [hnt, Try.ntmps59, Try.results59, anWB459]) | (refine ⟨?_, ?_⟩; · omega) | omega | apply_assumption -exfalso -symm | (exfalso; omega)))
      exact Again.mk ⟨2, by omega, by simp, by simp, by omega, by omega⟩ (Sub.lit (by simp)) (by simp)
      (repeat (first | (refine DW_seq fun K hK => ?_) | (refine DW_r anWB459 Try.mixed (by kernel_rfl) ?_; simp [hnt, Try.ntmps59, Try.results59, anWB459]; try simp (disch := omega) only [wrap64_in]) | (refine DW_block ?_) | (focus (refine DW_if ?_ ?_ ?_; (· (simp [hnt, Try.ntmps59, Try.results59, anWB459]; done)); (try (rotate_left; (· (intro hc; (try simp [hnt, Try.ntmps59, Try.results59, anWB459] at hc); done)))))) | (refine DW_ret ?_; simp [hnt, Try.ntmps59, Try.results59, anWB459]) | (refine DW_exit ?_; simp [hnt, Try.ntmps59, Try.results59, anWB459]) | (refine DW_skip ?_; simp [hnt, Try.ntmps59, Try.results59, anWB459]) | (intro hc; (try simp [hnt, Try.ntmps59, Try.results59, anWB459] at hc); done) | (intro hc; (try simp [hnt, Try.ntmps59, Try.results59, anWB459] at hc); (first | (exfalso; omega) | skip)) | (refine callP_mk (k2) ?_; try simp [hnt, Try.ntmps59, Try.results59, anWB459]) | (refine callP_wk (k2) ?_ ?_; (· (simp; done)); try simp [hnt, Try.ntmps59, Try.results59, anWB459]) | (refine ⟨?_, ?_⟩; · omega) | omega | apply_assumption -exfalso -symm | (exfalso; omega)))
    · have hRk : R = e2 := by rw [hR]; simp [h]
      subst hRk
      (repeat (first | (refine DW_seq fun K hK => ?_) | (refine DW_r anWB459 Try.mixed (by kernel_rfl) ?_; simp [hnt, Try.ntmps59, Try.results59, anWB459, h]; try simp (disch := omega) only [wrap64_in]) | (refine DW_block ?_) | (focus (refine DW_if ?_ ?_ ?_; (· (simp [hnt, Try.ntmps59, Try.results59, anWB459, h]; done)); (try (rotate_left; (· (intro hc; (try simp [hnt, Try.ntmps59, Try.results59, anWB459, h] at hc); done)))))) | (refine DW_ret ?_; simp [hnt, Try.ntmps59, Try.results59, anWB459, h]) | (refine DW_exit ?_; simp [hnt, Try.ntmps59, Try.results59, anWB459, h]) | (refine DW_skip ?_; simp [hnt, Try.ntmps59, Try.results59, anWB459, h]) | (intro hc; (try simp [hnt, Try.ntmps59, Try.results59, anWB459, h] at hc); done) | (intro hc; (try simp [hnt, Try.ntmps59, Try.results59, anWB459, h] at hc); (first | (exfalso; omega) | skip)) | (refine callP_mk (k2) ?_; try simp [hnt, Try.ntmps59, Try.results59, anWB459, h]) | (refine callP_wk (k2) ?_ ?_; (· (simp; done)); try simp [hnt, Try.ntmps59, Try.results59, anWB459, h]) | (refine ⟨?_, ?_⟩; · omega) | omega | apply_assumption -exfalso -symm | (exfalso; omega)))
  | 2, _, q1, q2, _, _ =>
    have q1 := q1 (by omega)
    have q2 := q2 (by omega)
    have k3 := h3 q1 q2
    clear h2 h3 h4
    subst q1; subst q2
    by_cases h : e3 = 0
    · subst h
      (repeat (first | (refine DW_seq fun K hK => ?_) | (refine DW_r anWB459 Try.mixed (by kernel_rfl) ?_; simp [hnt, Try.ntmps59, Try.results59, anWB459]; try simp (disch := omega) only [wrap64_in]) | (refine DW_block ?_) | (focus (refine DW_if ?_ ?_ ?_; (· (simp [hnt, Try.ntmps59, Try.results59, anWB459]; done)); (try (rotate_left; (· (intro hc; (try simp [hnt, Try.ntmps59, Try.results59, anWB459] at hc); done)))))) | (refine DW_ret ?_; simp [hnt, Try.ntmps59, Try.results59, anWB459]) | (refine DW_exit ?_; simp [hnt, Try.ntmps59, Try.results59, anWB459]) | (refine DW_skip ?_; simp [hnt, Try.ntmps59, Try.results59, anWB459]) | (intro hc; (try simp [hnt, Try.ntmps59, Try.results59, anWB459] at hc); done) | (intro hc; (try simp [hnt, Try.ntmps59, Try.results59, anWB459] at hc); (first | (exfalso; omega) | skip)) | (refine callP_mk (k3) ?_; try simp [hnt, Try.ntmps59, Try.results59, anWB459]) | (refine callP_wk (k3) ?_ ?_; (· (simp; done)); try simp [hnt, Try.ntmps59, Try.results59, anWB459]) | (refine ⟨?_, ?_⟩; · omega) | omega | apply_assumption -exfalso -symm | (exfalso; omega)))
      exact Again.mk ⟨3, by omega, by simp, by simp, by simp, by omega⟩ (Sub.lit (by simp)) (by simp)
      (repeat (first | (refine DW_seq fun K hK => ?_) | (refine DW_r anWB459 Try.mixed (by kernel_rfl) ?_; simp [hnt, Try.ntmps59, Try.results59, anWB459]; try simp (disch := omega) only [wrap64_in]) | (refine DW_block ?_) | (focus (refine DW_if ?_ ?_ ?_; (· (simp [hnt, Try.ntmps59, Try.results59, anWB459]; done)); (try (rotate_left; (· (intro hc; (try simp [hnt, Try.ntmps59, Try.results59, anWB459] at hc); done)))))) | (refine DW_ret ?_; simp [hnt, Try.ntmps59, Try.results59, anWB459]) | (refine DW_exit ?_; simp [hnt, Try.ntmps59, Try.results59, anWB459]) | (refine DW_skip ?_; simp [hnt, Try.ntmps59, Try.results59, anWB459]) | (intro hc; (try simp [hnt, Try.ntmps59, Try.results59, anWB459] at hc); done) | (intro hc; (try simp [hnt, Try.ntmps59, Try.results59, anWB459] at hc); (first | (exfalso; omega) | skip)) | (refine callP_mk (k3) ?_; try simp [hnt, Try.ntmps59, Try.results59, anWB459]) | (refine callP_wk (k3) ?_ ?_; (· (simp; done)); try simp [hnt, Try.ntmps59, Try.results59, anWB459]) | (refine ⟨?_, ?_⟩; · omega) | omega | apply_assumption -exfalso -symm | (exfalso; omega)))
    · have hRk : R = e3 := by rw [hR]; simp [h]
      subst hRk
      (repeat (first | (refine DW_seq fun K hK => ?_) | (refine DW_r anWB459 Try.mixed (by kernel_rfl) ?_; simp [hnt, Try.ntmps59, Try.results59, anWB459, h]; try simp (disch := omega) only [wrap64_in]) | (refine DW_block ?_) | (focus (refine DW_if ?_ ?_ ?_; (· (simp [hnt, Try.ntmps59, Try.results59, anWB459, h]; done)); (try (rotate_left; (· (intro hc; (try simp [hnt, Try.ntmps59, Try.results59, anWB459, h] at hc); done)))))) | (refine DW_ret ?_; simp [hnt, Try.ntmps59, Try.results59, anWB459, h]) | (refine DW_exit ?_; simp [hnt, Try.ntmps59, Try.results59, anWB459, h]) | (refine DW_skip ?_; simp [hnt, Try.ntmps59, Try.results59, anWB459, h]) | (intro hc; (try simp [hnt, Try.ntmps59, Try.results59, anWB459, h] at hc); done) | (intro hc; (try simp [hnt, Try.ntmps59, Try.results59, anWB459, h] at hc); (first | (exfalso; omega) | skip)) | (refine callP_mk (k3) ?_; try simp [hnt, Try.ntmps59, Try.results59, anWB459, h]) | (refine callP_wk (k3) ?_ ?_; (· (simp; done)); try simp [hnt, Try.ntmps59, Try.results59, anWB459, h]) | (refine ⟨?_, ?_⟩; · omega) | omega | apply_assumption -exfalso -symm | (exfalso; omega)))
  | 3, _, q1, q2, q3, _ =>
    have q1 := q1 (by omega)
    have q2 := q2 (by omega)
    have q3 := q3 (by omega)
    have k4 := h4 q1 q2 q3
    clear h2 h3 h4
    subst q1; subst q2; subst q3
    by_cases h : e4 = 0
    · subst h
      (repeat (first | (refine DW_seq fun K hK => ?_) | (refine DW_r anWB459 Try.mixed (by kernel_rfl) ?_; simp [hnt, Try.ntmps59, Try.results59, anWB459]; try simp (disch := omega) only [wrap64_in]) | (refine DW_block ?_) | (focus (refine DW_if ?_ ?_ ?_; (· (simp [hnt, Try.ntmps59, Try.results59, anWB459]; done)); (try (rotate_left; (· (intro hc; (try simp [hnt, Try.ntmps59, Try.results59, anWB459] at hc); done)))))) | (refine DW_ret ?_; simp [hnt, Try.ntmps59, Try.results59, anWB459]) | (refine DW_exit ?_; simp [hnt, Try.ntmps59, Try.results59, anWB459]) | (refine DW_skip ?_; simp [hnt, Try.ntmps59, Try.results59, anWB459]) | (intro hc; (try simp [hnt, Try.ntmps59, Try.results59, anWB459] at hc); done) | (intro hc; (try simp [hnt, Try.ntmps59, Try.results59, anWB459] at hc); (first | (exfalso; omega) | skip)) | (refine callP_mk (k4) ?_; try simp [hnt, Try.ntmps59, Try.results59, anWB459]) | (refine callP_wk (k4) ?_ ?_; (· (simp; done)); try simp [hnt, Try.ntmps59, Try.results59, anWB459]) | (refine ⟨?_, ?_⟩; · omega) | omega | apply_assumption -exfalso -symm | (exfalso; omega)))
      exact Again.mk ⟨4, by omega, by simp, by simp, by simp, by simp⟩ (Sub.lit (by simp)) (by simp)
      (repeat (first | (refine DW_seq fun K hK => ?_) | (refine DW_r anWB459 Try.mixed (by kernel_rfl) ?_; simp [hnt, Try.ntmps59, Try.results59, anWB459]; try simp (disch := omega) only [wrap64_in]) | (refine DW_block ?_) | (focus (refine DW_if ?_ ?_ ?_; (· (simp [hnt, Try.ntmps59, Try.results59, anWB459]; done)); (try (rotate_left; (· (intro hc; (try simp [hnt, Try.ntmps59, Try.results59, anWB459] at hc); done)))))) | (refine DW_ret ?_; simp [hnt, Try.ntmps59, Try.results59, anWB459]) | (refine DW_exit ?_; simp [hnt, Try.ntmps59, Try.results59, anWB459]) | (refine DW_skip ?_; simp [hnt, Try.ntmps59, Try.results59, anWB459]) | (intro hc; (try simp [hnt, Try.ntmps59, Try.results59, anWB459] at hc); done) | (intro hc; (try simp [hnt, Try.ntmps59, Try.results59, anWB459] at hc); (first | (exfalso; omega) | skip)) | (refine callP_mk (k4) ?_; try simp [hnt, Try.ntmps59, Try.results59, anWB459]) | (refine callP_wk (k4) ?_ ?_; (· (simp; done)); try simp [hnt, Try.ntmps59, Try.results59, anWB459]) | (refine ⟨?_, ?_⟩; · omega) | omega | apply_assumption -exfalso -symm | (exfalso; omega)))
    · have hRk : R = e4 := by rw [hR]; simp
      subst hRk
      (repeat (first | (refine DW_seq fun K hK => ?_) | (refine DW_r anWB459 Try.mixed (by kernel_rfl) ?_; simp [hnt, Try.ntmps59, Try.results59, anWB459, h]; try simp (disch := omega) only [wrap64_in]) | (refine DW_block ?_) | (focus (refine DW_if ?_ ?_ ?_; (· (simp [hnt, Try.ntmps59, Try.results59, anWB459, h]; done)); (try (rotate_left; (· (intro hc; (try simp [hnt, Try.ntmps59, Try.results59, anWB459, h] at hc); done)))))) | (refine DW_ret ?_; simp [hnt, Try.ntmps59, Try.results59, anWB459, h]) | (refine DW_exit ?_; simp [hnt, Try.ntmps59, Try.results59, anWB459, h]) | (refine DW_skip ?_; simp [hnt, Try.ntmps59, Try.results59, anWB459, h]) | (intro hc; (try simp [hnt, Try.ntmps59, Try.results59, anWB459, h] at hc); done) | (intro hc; (try simp [hnt, Try.ntmps59, Try.results59, anWB459, h] at hc); (first | (exfalso; omega) | skip)) | (refine callP_mk (k4) ?_; try simp [hnt, Try.ntmps59, Try.results59, anWB459, h]) | (refine callP_wk (k4) ?_ ?_; (· (simp; done)); try simp [hnt, Try.ntmps59, Try.results59, anWB459, h]) | (refine ⟨?_, ?_⟩; · omega) | omega | apply_assumption -exfalso -symm | (exfalso; omega)))
  | 4, _, q1, q2, q3, q4 =>
    clear h2 h3 h4
    have q1 := q1 (by omega)
    have q2 := q2 (by omega)
    have q3 := q3 (by omega)
    have q4 := q4 (by omega)
    subst q1; subst q2; subst q3; subst q4
    have hRk : R = 0 := by rw [hR]; simp
    subst hRk
    (repeat (first | (refine DW_seq fun K hK => ?_) | (refine DW_r anWB459 Try.mixed (by kernel_rfl) ?_; simp [hnt, Try.ntmps59, Try.results59, anWB459]; try simp (disch := omega) only [wrap64_in]) | (refine DW_block ?_) | (focus (refine DW_if ?_ ?_ ?_; (· (simp [hnt, Try.ntmps59, Try.results59, anWB459]; done)); (try (rotate_left; (· (intro hc; (try simp [hnt, Try.ntmps59, Try.results59, anWB459] at hc); done)))))) | (refine DW_ret ?_; simp [hnt, Try.ntmps59, Try.results59, anWB459]) | (refine DW_exit ?_; simp [hnt, Try.ntmps59, Try.results59, anWB459]) | (refine DW_skip ?_; simp [hnt, Try.ntmps59, Try.results59, anWB459]) | (intro hc; (try simp [hnt, Try.ntmps59, Try.results59, anWB459] at hc); done) | (intro hc; (try simp [hnt, Try.ntmps59, Try.results59, anWB459] at hc); (first | (exfalso; omega) | skip)) | (refine ⟨?_, ?_⟩; · omega) | omega | apply_assumption -exfalso -symm | (exfalso; omega)))

/-- where edges lead, one behind the other, all of a list -/
def wayAt (es : List Edge) : ByteArray → List Edge → Option ByteArray
  | p, [] => some p
  | p, x :: l => if x.fr = p ∧ 0 ≤ placeE es x then wayAt es x.to l else none
def isWay (g : Edges) (a b : ByteArray) (way : List Edge) : Bool := match wayAt g.edges a way with
  | some z => z == b
  | none => false

def anWB467 : Ann := ⟨[], [⟨5, [12], [], []⟩]⟩
theorem joined_pure (g : Edges) (a b : ByteArray) (way : List Edge) : DPure Try.prog 67 [.agg (dGr g), .str a, .str b, dEds way] (.bool (isWay g a b way)) := by
  refine DPure_introF [] (fn := Try.f67) Try.func67 rfl Try.call67 (by simp [Try.ntmps67]) (by simp [mx]) ?_
  intro hwf B hnt
  have hlen : way.length < 9223372036854775807 := len_eds hwf.2.2.2.1
  clear hwf
  simp only [argS]
  obtain ⟨R, hR⟩ : ∃ R, R = isWay g a b way := ⟨_, rfl⟩
  rw [← hR]
  unfold isWay at hR
  (repeat (first | (refine DW_seq fun K hK => ?_) | (refine DW_r anWB467 Try.mixed (by kernel_rfl) ?_; simp [hnt, Try.ntmps67, Try.results67, anWB467, dGr]; try simp (disch := omega) only [wrap64_in]) | (refine DW_block ?_) | (focus (refine DW_if ?_ ?_ ?_; (· (simp [hnt, Try.ntmps67, Try.results67, anWB467, dGr]; done)); (try (rotate_left; (· (intro hc; (try simp [hnt, Try.ntmps67, Try.results67, anWB467, dGr] at hc); done)))))) | (refine DW_ret ?_; simp [hnt, Try.ntmps67, Try.results67, anWB467, dGr]) | (refine DW_exit ?_; simp [hnt, Try.ntmps67, Try.results67, anWB467, dGr]) | (refine DW_skip ?_; simp [hnt, Try.ntmps67, Try.results67, anWB467, dGr]) | (intro hc; (try simp [hnt, Try.ntmps67, Try.results67, anWB467, dGr] at hc); done) | (intro hc; (try simp [hnt, Try.ntmps67, Try.results67, anWB467, dGr] at hc); (first | (exfalso; omega) | skip)) | (refine ⟨?_, ?_⟩; · omega) | omega | apply_assumption -exfalso -symm | (exfalso; omega)))
  refine DW_scope ?_
  (repeat (first | (refine DW_seq fun K hK => ?_) | (refine DW_r anWB467 Try.mixed (by kernel_rfl) ?_; simp [hnt, Try.ntmps67, Try.results67, anWB467, dGr]; try simp (disch := omega) only [wrap64_in]) | (refine DW_block ?_) | (focus (refine DW_if ?_ ?_ ?_; (· (simp [hnt, Try.ntmps67, Try.results67, anWB467, dGr]; done)); (try (rotate_left; (· (intro hc; (try simp [hnt, Try.ntmps67, Try.results67, anWB467, dGr] at hc); done)))))) | (refine DW_ret ?_; simp [hnt, Try.ntmps67, Try.results67, anWB467, dGr]) | (refine DW_exit ?_; simp [hnt, Try.ntmps67, Try.results67, anWB467, dGr]) | (refine DW_skip ?_; simp [hnt, Try.ntmps67, Try.results67, anWB467, dGr]) | (intro hc; (try simp [hnt, Try.ntmps67, Try.results67, anWB467, dGr] at hc); done) | (intro hc; (try simp [hnt, Try.ntmps67, Try.results67, anWB467, dGr] at hc); (first | (exfalso; omega) | skip)) | (refine ⟨?_, ?_⟩; · omega) | omega | apply_assumption -exfalso -symm | (exfalso; omega)))
  refine DW_label ?_
  simp
  (repeat (first | (refine DW_seq fun K hK => ?_) | (refine DW_r anWB467 Try.mixed (by kernel_rfl) ?_; simp [hnt, Try.ntmps67, Try.results67, anWB467, dGr]; try simp (disch := omega) only [wrap64_in]) | (refine DW_block ?_) | (focus (refine DW_if ?_ ?_ ?_; (· (simp [hnt, Try.ntmps67, Try.results67, anWB467, dGr]; done)); (try (rotate_left; (· (intro hc; (try simp [hnt, Try.ntmps67, Try.results67, anWB467, dGr] at hc); done)))))) | (refine DW_ret ?_; simp [hnt, Try.ntmps67, Try.results67, anWB467, dGr]) | (refine DW_exit ?_; simp [hnt, Try.ntmps67, Try.results67, anWB467, dGr]) | (refine DW_skip ?_; simp [hnt, Try.ntmps67, Try.results67, anWB467, dGr]) | (intro hc; (try simp [hnt, Try.ntmps67, Try.results67, anWB467, dGr] at hc); done) | (intro hc; (try simp [hnt, Try.ntmps67, Try.results67, anWB467, dGr] at hc); (first | (exfalso; omega) | skip)) | (refine ⟨?_, ?_⟩; · omega) | omega | apply_assumption -exfalso -symm | (exfalso; omega)))
  refine DW_loop (X := {x : Nat × ByteArray // x.1 ≤ way.length ∧ wayAt g.edges x.2 (way.drop x.1) = wayAt g.edges a way})
    (fun x => ⟨[(2, .str b), (4, .ref (dGr g)), (9, .str x.1.2), (10, .bool true), (14, dEds way), (15, .int .i64 way.length), (16, .int .i64 x.1.1)], []⟩) (fun x => way.length - x.1.1) ⟨(0, a), by simp⟩ (Sub.lit (by simp [dGr])) ?_
  rintro ⟨⟨k, p⟩, hk, hw⟩
  simp only at hk hw ⊢
  by_cases hlt : k < way.length
  · obtain ⟨x, hx, hx', hxm⟩ := at_lt' hlt
    rw [List.drop_eq_getElem_cons hlt, hx'] at hw
    simp only [wayAt] at hw
    have h1 := contains105_pure g.edges x
    simp only [dEdge] at h1
    by_cases c1 : x.fr = p
    · subst c1
      by_cases c2 : 0 ≤ placeE g.edges x
      · rw [if_pos ⟨rfl, c2⟩] at hw
        simp only [c2, decide_true] at h1
        (repeat (first | (refine DW_seq fun K hK => ?_) | (refine DW_r anWB467 Try.mixed (by kernel_rfl) ?_; simp [hnt, Try.ntmps67, Try.results67, anWB467, dGr, dEdge, hlt, hx, hx']; try simp (disch := omega) only [wrap64_in]) | (refine DW_block ?_) | (focus (refine DW_if ?_ ?_ ?_; (· (simp [hnt, Try.ntmps67, Try.results67, anWB467, dGr, dEdge, hlt, hx, hx']; done)); (try (rotate_left; (· (intro hc; (try simp [hnt, Try.ntmps67, Try.results67, anWB467, dGr, dEdge, hlt, hx, hx'] at hc); done)))))) | (refine DW_ret ?_; simp [hnt, Try.ntmps67, Try.results67, anWB467, dGr, dEdge, hlt, hx, hx']) | (refine DW_exit ?_; simp [hnt, Try.ntmps67, Try.results67, anWB467, dGr, dEdge, hlt, hx, hx']) | (refine DW_skip ?_; simp [hnt, Try.ntmps67, Try.results67, anWB467, dGr, dEdge, hlt, hx, hx']) | (intro hc; (try simp [hnt, Try.ntmps67, Try.results67, anWB467, dGr, dEdge, hlt, hx, hx'] at hc); done) | (intro hc; (try simp [hnt, Try.ntmps67, Try.results67, anWB467, dGr, dEdge, hlt, hx, hx'] at hc); (first | (exfalso; omega) | skip)) | (refine callP_mk (h1) ?_; try simp [hnt, Try.ntmps67, Try.results67, anWB467, dGr, dEdge, hlt, hx, hx']) | (refine callP_wk (h1) ?_ ?_; (· (simp; done)); try simp [hnt, Try.ntmps67, Try.results67, anWB467, dGr, dEdge, hlt, hx, hx']) | (refine ⟨?_, ?_⟩; · omega) | omega | apply_assumption -exfalso -symm | (exfalso; omega)))
        exact Again.mk ⟨(k + 1, x.to), show k + 1 ≤ way.length ∧ wayAt g.edges x.to (way.drop (k + 1)) = wayAt g.edges a way from ⟨by omega, hw⟩⟩ (Sub.lit (by simp [dGr])) (by simp; omega)
        (repeat (first | (refine DW_seq fun K hK => ?_) | (refine DW_r anWB467 Try.mixed (by kernel_rfl) ?_; simp [hnt, Try.ntmps67, Try.results67, anWB467]; try simp (disch := omega) only [wrap64_in]) | (refine DW_block ?_) | (focus (refine DW_if ?_ ?_ ?_; (· (simp [hnt, Try.ntmps67, Try.results67, anWB467]; done)); (try (rotate_left; (· (intro hc; (try simp [hnt, Try.ntmps67, Try.results67, anWB467] at hc); done)))))) | (refine DW_ret ?_; simp [hnt, Try.ntmps67, Try.results67, anWB467]) | (refine DW_exit ?_; simp [hnt, Try.ntmps67, Try.results67, anWB467]) | (refine DW_skip ?_; simp [hnt, Try.ntmps67, Try.results67, anWB467]) | (intro hc; (try simp [hnt, Try.ntmps67, Try.results67, anWB467] at hc); done) | (intro hc; (try simp [hnt, Try.ntmps67, Try.results67, anWB467] at hc); (first | (exfalso; omega) | skip)) | (refine callP_mk (h1) ?_; try simp [hnt, Try.ntmps67, Try.results67, anWB467]) | (refine callP_wk (h1) ?_ ?_; (· (simp; done)); try simp [hnt, Try.ntmps67, Try.results67, anWB467]) | (refine ⟨?_, ?_⟩; · omega) | omega | apply_assumption -exfalso -symm | (exfalso; omega)))
      · rw [if_neg (fun h => c2 h.2)] at hw
        simp only [c2, decide_false] at h1
        rw [← hw] at hR
        simp only at hR
        subst hR
        (repeat (first | (refine DW_seq fun K hK => ?_) | (refine DW_r anWB467 Try.mixed (by kernel_rfl) ?_; simp [hnt, Try.ntmps67, Try.results67, anWB467, dGr, dEdge, hlt, hx, hx']; try simp (disch := omega) only [wrap64_in]) | (refine DW_block ?_) | (focus (refine DW_if ?_ ?_ ?_; (· (simp [hnt, Try.ntmps67, Try.results67, anWB467, dGr, dEdge, hlt, hx, hx']; done)); (try (rotate_left; (· (intro hc; (try simp [hnt, Try.ntmps67, Try.results67, anWB467, dGr, dEdge, hlt, hx, hx'] at hc); done)))))) | (refine DW_ret ?_; simp [hnt, Try.ntmps67, Try.results67, anWB467, dGr, dEdge, hlt, hx, hx']) | (refine DW_exit ?_; simp [hnt, Try.ntmps67, Try.results67, anWB467, dGr, dEdge, hlt, hx, hx']) | (refine DW_skip ?_; simp [hnt, Try.ntmps67, Try.results67, anWB467, dGr, dEdge, hlt, hx, hx']) | (intro hc; (try simp [hnt, Try.ntmps67, Try.results67, anWB467, dGr, dEdge, hlt, hx, hx'] at hc); done) | (intro hc; (try simp [hnt, Try.ntmps67, Try.results67, anWB467, dGr, dEdge, hlt, hx, hx'] at hc); (first | (exfalso; omega) | skip)) | (refine callP_mk (h1) ?_; try simp [hnt, Try.ntmps67, Try.results67, anWB467, dGr, dEdge, hlt, hx, hx']) | (refine callP_wk (h1) ?_ ?_; (· (simp; done)); try simp [hnt, Try.ntmps67, Try.results67, anWB467, dGr, dEdge, hlt, hx, hx']) | (refine ⟨?_, ?_⟩; · omega) | omega | apply_assumption -exfalso -symm | (exfalso; omega)))
    · rw [if_neg (fun h => c1 h.1)] at hw
      rw [← hw] at hR
      simp only at hR
      subst hR
      have c1b : (x.fr == p) = false := by simpa using c1
      (repeat (first | (refine DW_seq fun K hK => ?_) | (refine DW_r anWB467 Try.mixed (by kernel_rfl) ?_; simp [hnt, Try.ntmps67, Try.results67, anWB467, dGr, dEdge, hlt, hx, hx', c1b]; try simp (disch := omega) only [wrap64_in]) | (refine DW_block ?_) | (focus (refine DW_if ?_ ?_ ?_; (· (simp [hnt, Try.ntmps67, Try.results67, anWB467, dGr, dEdge, hlt, hx, hx', c1b]; done)); (try (rotate_left; (· (intro hc; (try simp [hnt, Try.ntmps67, Try.results67, anWB467, dGr, dEdge, hlt, hx, hx', c1b] at hc); done)))))) | (refine DW_ret ?_; simp [hnt, Try.ntmps67, Try.results67, anWB467, dGr, dEdge, hlt, hx, hx', c1b]) | (refine DW_exit ?_; simp [hnt, Try.ntmps67, Try.results67, anWB467, dGr, dEdge, hlt, hx, hx', c1b]) | (refine DW_skip ?_; simp [hnt, Try.ntmps67, Try.results67, anWB467, dGr, dEdge, hlt, hx, hx', c1b]) | (intro hc; (try simp [hnt, Try.ntmps67, Try.results67, anWB467, dGr, dEdge, hlt, hx, hx', c1b] at hc); done) | (intro hc; (try simp [hnt, Try.ntmps67, Try.results67, anWB467, dGr, dEdge, hlt, hx, hx', c1b] at hc); (first | (exfalso; omega) | skip)) | (refine callP_mk (h1) ?_; try simp [hnt, Try.ntmps67, Try.results67, anWB467, dGr, dEdge, hlt, hx, hx', c1b]) | (refine callP_wk (h1) ?_ ?_; (· (simp; done)); try simp [hnt, Try.ntmps67, Try.results67, anWB467, dGr, dEdge, hlt, hx, hx', c1b]) | (refine ⟨?_, ?_⟩; · omega) | omega | apply_assumption -exfalso -symm | (exfalso; omega)))
  · have hkk : k = way.length := by omega
    subst hkk
    rw [List.drop_length] at hw
    simp only [wayAt] at hw
    rw [← hw] at hR
    simp only at hR
    subst hR
    (repeat (first | (refine DW_seq fun K hK => ?_) | (refine DW_r anWB467 Try.mixed (by kernel_rfl) ?_; simp [hnt, Try.ntmps67, Try.results67, anWB467, dGr]; try simp (disch := omega) only [wrap64_in]) | (refine DW_block ?_) | (focus (refine DW_if ?_ ?_ ?_; (· (simp [hnt, Try.ntmps67, Try.results67, anWB467, dGr]; done)); (try (rotate_left; (· (intro hc; (try simp [hnt, Try.ntmps67, Try.results67, anWB467, dGr] at hc); done)))))) | (refine DW_ret ?_; simp [hnt, Try.ntmps67, Try.results67, anWB467, dGr]) | (refine DW_exit ?_; simp [hnt, Try.ntmps67, Try.results67, anWB467, dGr]) | (refine DW_skip ?_; simp [hnt, Try.ntmps67, Try.results67, anWB467, dGr]) | (intro hc; (try simp [hnt, Try.ntmps67, Try.results67, anWB467, dGr] at hc); done) | (intro hc; (try simp [hnt, Try.ntmps67, Try.results67, anWB467, dGr] at hc); (first | (exfalso; omega) | skip)) | (refine ⟨?_, ?_⟩; · omega) | omega | apply_assumption -exfalso -symm | (exfalso; omega)))

def spellL (way : List Edge) : List ByteArray := way.map (·.lb)
def anWB432 : Ann := ⟨[], [⟨4, [5], [], []⟩]⟩
theorem spell32_pure (way : List Edge) : DPure Try.prog 32 [dEds way] (dStrs (spellL way)) := by
  refine DPure_introF [3] (fn := Try.f32) Try.func32 rfl Try.call32 (by simp [Try.ntmps32]) (by simp [mx]) ?_
  intro hwf B hnt
  have hlen := len_eds hwf.1
  have hsz : way.length * 48 ≤ 150000000000000 := by have := hwf.1; simp only [wfD, List.length_map] at this; exact this.1
  clear hwf
  simp only [argS]
  (repeat (first | (refine DW_seq fun K hK => ?_) | (refine DW_r anWB432 Try.mixed (by kernel_rfl) ?_; simp [hnt, Try.ntmps32, Try.results32, anWB432]; try simp (disch := omega) only [wrap64_in]) | (refine DW_block ?_) | (focus (refine DW_if ?_ ?_ ?_; (· (simp [hnt, Try.ntmps32, Try.results32, anWB432]; done)); (try (rotate_left; (· (intro hc; (try simp [hnt, Try.ntmps32, Try.results32, anWB432] at hc); done)))))) | (refine DW_ret ?_; simp [hnt, Try.ntmps32, Try.results32, anWB432]) | (refine DW_exit ?_; simp [hnt, Try.ntmps32, Try.results32, anWB432]) | (refine DW_skip ?_; simp [hnt, Try.ntmps32, Try.results32, anWB432]) | (intro hc; (try simp [hnt, Try.ntmps32, Try.results32, anWB432] at hc); done) | (intro hc; (try simp [hnt, Try.ntmps32, Try.results32, anWB432] at hc); (first | (exfalso; omega) | skip)) | (refine ⟨?_, ?_⟩; · omega) | omega | apply_assumption -exfalso -symm | (exfalso; omega)))
  refine DW_adoptS 3 3 9 1 16 (by simp [hnt, Try.ntmps32]) (fun n3 => ?_)
  refine DW_loop (X := {k : Nat // k ≤ way.length}) (fun k => ⟨[(3, .osl 3 1), (6, dEds way), (7, .int .i64 way.length), (8, .int .i64 k.1)], [⟨3, 1, .row 9 1 16 ((spellL (way.take k.1)).map dStr)⟩]⟩) (fun k => way.length - k.1) ⟨0, by omega⟩ (Sub.lit (by simp [spellL])) ?_
  rintro ⟨k, hk⟩
  by_cases hlt : k < way.length
  · obtain ⟨x, hx, hx', hxm⟩ := at_lt' hlt
    have htk : spellL (way.take (k + 1)) = spellL (way.take k) ++ [x.lb] := by unfold spellL; rw [List.take_succ_eq_append_getElem hlt, hx', List.map_append]; rfl
    have hl1 : (spellL (way.take k)).length = k := by simp [spellL]; omega
    obtain ⟨T, hT⟩ : ∃ T, T = spellL (way.take k) := ⟨_, rfl⟩
    rw [← hT] at htk hl1 ⊢
    have z1 : (k + 1) * 16 ≤ 150000000000000 := by omega
    have z2 : k + 1 ≤ 9223372036854775807 := by omega
    (repeat (first | (refine DW_seq fun K hK => ?_) | (refine DW_r anWB432 Try.mixed (by kernel_rfl) ?_; simp [hnt, Try.ntmps32, Try.results32, anWB432, dEdge, hlt, hx, hx', hl1, z1, z2]; try simp (disch := omega) only [wrap64_in]) | (refine DW_block ?_) | (focus (refine DW_if ?_ ?_ ?_; (· (simp [hnt, Try.ntmps32, Try.results32, anWB432, dEdge, hlt, hx, hx', hl1, z1, z2]; done)); (try (rotate_left; (· (intro hc; (try simp [hnt, Try.ntmps32, Try.results32, anWB432, dEdge, hlt, hx, hx', hl1, z1, z2] at hc); done)))))) | (refine DW_ret ?_; simp [hnt, Try.ntmps32, Try.results32, anWB432, dEdge, hlt, hx, hx', hl1, z1, z2]) | (refine DW_exit ?_; simp [hnt, Try.ntmps32, Try.results32, anWB432, dEdge, hlt, hx, hx', hl1, z1, z2]) | (refine DW_skip ?_; simp [hnt, Try.ntmps32, Try.results32, anWB432, dEdge, hlt, hx, hx', hl1, z1, z2]) | (intro hc; (try simp [hnt, Try.ntmps32, Try.results32, anWB432, dEdge, hlt, hx, hx', hl1, z1, z2] at hc); done) | (intro hc; (try simp [hnt, Try.ntmps32, Try.results32, anWB432, dEdge, hlt, hx, hx', hl1, z1, z2] at hc); (first | (exfalso; omega) | skip)) | (refine ⟨?_, ?_⟩; · omega) | omega | apply_assumption -exfalso -symm | (exfalso; omega)))
    refine Again.mk ⟨k + 1, by omega⟩ (Sub.lit (by simp [htk, dStr])) (by simp; omega)
    (repeat (first | (refine DW_seq fun K hK => ?_) | (refine DW_r anWB432 Try.mixed (by kernel_rfl) ?_; simp [hnt, Try.ntmps32, Try.results32, anWB432]; try simp (disch := omega) only [wrap64_in]) | (refine DW_block ?_) | (focus (refine DW_if ?_ ?_ ?_; (· (simp [hnt, Try.ntmps32, Try.results32, anWB432]; done)); (try (rotate_left; (· (intro hc; (try simp [hnt, Try.ntmps32, Try.results32, anWB432] at hc); done)))))) | (refine DW_ret ?_; simp [hnt, Try.ntmps32, Try.results32, anWB432]) | (refine DW_exit ?_; simp [hnt, Try.ntmps32, Try.results32, anWB432]) | (refine DW_skip ?_; simp [hnt, Try.ntmps32, Try.results32, anWB432]) | (intro hc; (try simp [hnt, Try.ntmps32, Try.results32, anWB432] at hc); done) | (intro hc; (try simp [hnt, Try.ntmps32, Try.results32, anWB432] at hc); (first | (exfalso; omega) | skip)) | (refine ⟨?_, ?_⟩; · omega) | omega | apply_assumption -exfalso -symm | (exfalso; omega)))
  · have hkk : k = way.length := by omega
    subst hkk
    rw [List.take_length]
    (repeat (first | (refine DW_seq fun K hK => ?_) | (refine DW_r anWB432 Try.mixed (by kernel_rfl) ?_; simp [hnt, Try.ntmps32, Try.results32, anWB432]; try simp (disch := omega) only [wrap64_in]) | (refine DW_block ?_) | (focus (refine DW_if ?_ ?_ ?_; (· (simp [hnt, Try.ntmps32, Try.results32, anWB432]; done)); (try (rotate_left; (· (intro hc; (try simp [hnt, Try.ntmps32, Try.results32, anWB432] at hc); done)))))) | (refine DW_ret ?_; simp [hnt, Try.ntmps32, Try.results32, anWB432]) | (refine DW_exit ?_; simp [hnt, Try.ntmps32, Try.results32, anWB432]) | (refine DW_skip ?_; simp [hnt, Try.ntmps32, Try.results32, anWB432]) | (intro hc; (try simp [hnt, Try.ntmps32, Try.results32, anWB432] at hc); done) | (intro hc; (try simp [hnt, Try.ntmps32, Try.results32, anWB432] at hc); (first | (exfalso; omega) | skip)) | (refine ⟨?_, ?_⟩; · omega) | omega | apply_assumption -exfalso -symm | (exfalso; omega)))
def anWB436 : Ann := ⟨[], []⟩
theorem spell36_pure (way : List Edge) : DPure Try.prog 36 [dEds way] (dStrs (spellL way)) := by
  refine DPure_introF [3] (fn := Try.f36) Try.func36 rfl Try.call36 (by simp [Try.ntmps36]) (by simp [mx]) ?_
  intro hwf B hnt
  have hlen := len_eds hwf.1
  have hsz : way.length * 48 ≤ 150000000000000 := by have := hwf.1; simp only [wfD, List.length_map] at this; exact this.1
  clear hwf
  simp only [argS]
  (repeat (first | (refine DW_seq fun K hK => ?_) | (refine DW_r anWB436 Try.mixed (by kernel_rfl) ?_; simp [hnt, Try.ntmps36, Try.results36, anWB436]; try simp (disch := omega) only [wrap64_in]) | (refine DW_block ?_) | (focus (refine DW_if ?_ ?_ ?_; (· (simp [hnt, Try.ntmps36, Try.results36, anWB436]; done)); (try (rotate_left; (· (intro hc; (try simp [hnt, Try.ntmps36, Try.results36, anWB436] at hc); done)))))) | (refine DW_ret ?_; simp [hnt, Try.ntmps36, Try.results36, anWB436]) | (refine DW_exit ?_; simp [hnt, Try.ntmps36, Try.results36, anWB436]) | (refine DW_skip ?_; simp [hnt, Try.ntmps36, Try.results36, anWB436]) | (intro hc; (try simp [hnt, Try.ntmps36, Try.results36, anWB436] at hc); done) | (intro hc; (try simp [hnt, Try.ntmps36, Try.results36, anWB436] at hc); (first | (exfalso; omega) | skip)) | (refine ⟨?_, ?_⟩; · omega) | omega | apply_assumption -exfalso -symm | (exfalso; omega)))
  refine DW_adoptS 3 3 9 1 16 (by simp [hnt, Try.ntmps36]) (fun n3 => ?_)
  refine DW_loop (X := {k : Nat // k ≤ way.length}) (fun k => ⟨[(0, dEds way), (3, .osl 3 1), (4, .int .i64 k.1)], [⟨3, 1, .row 9 1 16 ((spellL (way.take k.1)).map dStr)⟩]⟩) (fun k => way.length - k.1) ⟨0, by omega⟩ (Sub.lit (by simp [spellL])) ?_
  rintro ⟨k, hk⟩
  by_cases hlt : k < way.length
  · obtain ⟨x, hx, hx', hxm⟩ := at_lt' hlt
    have htk : spellL (way.take (k + 1)) = spellL (way.take k) ++ [x.lb] := by unfold spellL; rw [List.take_succ_eq_append_getElem hlt, hx', List.map_append]; rfl
    have hl1 : (spellL (way.take k)).length = k := by simp [spellL]; omega
    obtain ⟨T, hT⟩ : ∃ T, T = spellL (way.take k) := ⟨_, rfl⟩
    rw [← hT] at htk hl1 ⊢
    have z1 : (k + 1) * 16 ≤ 150000000000000 := by omega
    have z2 : k + 1 ≤ 9223372036854775807 := by omega
    (repeat (first | (refine DW_seq fun K hK => ?_) | (refine DW_r anWB436 Try.mixed (by kernel_rfl) ?_; simp [hnt, Try.ntmps36, Try.results36, anWB436, dEdge, hlt, hx, hx', hl1, z1, z2]; try simp (disch := omega) only [wrap64_in]) | (refine DW_block ?_) | (focus (refine DW_if ?_ ?_ ?_; (· (simp [hnt, Try.ntmps36, Try.results36, anWB436, dEdge, hlt, hx, hx', hl1, z1, z2]; done)); (try (rotate_left; (· (intro hc; (try simp [hnt, Try.ntmps36, Try.results36, anWB436, dEdge, hlt, hx, hx', hl1, z1, z2] at hc); done)))))) | (refine DW_ret ?_; simp [hnt, Try.ntmps36, Try.results36, anWB436, dEdge, hlt, hx, hx', hl1, z1, z2]) | (refine DW_exit ?_; simp [hnt, Try.ntmps36, Try.results36, anWB436, dEdge, hlt, hx, hx', hl1, z1, z2]) | (refine DW_skip ?_; simp [hnt, Try.ntmps36, Try.results36, anWB436, dEdge, hlt, hx, hx', hl1, z1, z2]) | (intro hc; (try simp [hnt, Try.ntmps36, Try.results36, anWB436, dEdge, hlt, hx, hx', hl1, z1, z2] at hc); done) | (intro hc; (try simp [hnt, Try.ntmps36, Try.results36, anWB436, dEdge, hlt, hx, hx', hl1, z1, z2] at hc); (first | (exfalso; omega) | skip)) | (refine ⟨?_, ?_⟩; · omega) | omega | apply_assumption -exfalso -symm | (exfalso; omega)))
    refine Again.mk ⟨k + 1, by omega⟩ (Sub.lit (by simp [htk, dStr])) (by simp; omega)
    (repeat (first | (refine DW_seq fun K hK => ?_) | (refine DW_r anWB436 Try.mixed (by kernel_rfl) ?_; simp [hnt, Try.ntmps36, Try.results36, anWB436]; try simp (disch := omega) only [wrap64_in]) | (refine DW_block ?_) | (focus (refine DW_if ?_ ?_ ?_; (· (simp [hnt, Try.ntmps36, Try.results36, anWB436]; done)); (try (rotate_left; (· (intro hc; (try simp [hnt, Try.ntmps36, Try.results36, anWB436] at hc); done)))))) | (refine DW_ret ?_; simp [hnt, Try.ntmps36, Try.results36, anWB436]) | (refine DW_exit ?_; simp [hnt, Try.ntmps36, Try.results36, anWB436]) | (refine DW_skip ?_; simp [hnt, Try.ntmps36, Try.results36, anWB436]) | (intro hc; (try simp [hnt, Try.ntmps36, Try.results36, anWB436] at hc); done) | (intro hc; (try simp [hnt, Try.ntmps36, Try.results36, anWB436] at hc); (first | (exfalso; omega) | skip)) | (refine ⟨?_, ?_⟩; · omega) | omega | apply_assumption -exfalso -symm | (exfalso; omega)))
  · have hkk : k = way.length := by omega
    subst hkk
    rw [List.take_length]
    (repeat (first | (refine DW_seq fun K hK => ?_) | (refine DW_r anWB436 Try.mixed (by kernel_rfl) ?_; simp [hnt, Try.ntmps36, Try.results36, anWB436]; try simp (disch := omega) only [wrap64_in]) | (refine DW_block ?_) | (focus (refine DW_if ?_ ?_ ?_; (· (simp [hnt, Try.ntmps36, Try.results36, anWB436]; done)); (try (rotate_left; (· (intro hc; (try simp [hnt, Try.ntmps36, Try.results36, anWB436] at hc); done)))))) | (refine DW_ret ?_; simp [hnt, Try.ntmps36, Try.results36, anWB436]) | (refine DW_exit ?_; simp [hnt, Try.ntmps36, Try.results36, anWB436]) | (refine DW_skip ?_; simp [hnt, Try.ntmps36, Try.results36, anWB436]) | (intro hc; (try simp [hnt, Try.ntmps36, Try.results36, anWB436] at hc); done) | (intro hc; (try simp [hnt, Try.ntmps36, Try.results36, anWB436] at hc); (first | (exfalso; omega) | skip)) | (refine ⟨?_, ?_⟩; · omega) | omega | apply_assumption -exfalso -symm | (exfalso; omega)))
def anWB435 : Ann := ⟨[], []⟩
theorem sameTexts_refl (l : List ByteArray) : DPure Try.prog 35 [dStrs l, dStrs l] (.bool true) := by
  refine DPure_introF [] (fn := Try.f35) Try.func35 rfl Try.call35 (by simp [Try.ntmps35]) (by simp [mx]) ?_
  intro hwf B hnt
  have hlen := len_strs hwf.1
  clear hwf
  simp only [argS]
  (repeat (first | (refine DW_seq fun K hK => ?_) | (refine DW_r anWB435 Try.mixed (by kernel_rfl) ?_; simp [hnt, Try.ntmps35, Try.results35, anWB435]; try simp (disch := omega) only [wrap64_in]) | (refine DW_block ?_) | (focus (refine DW_if ?_ ?_ ?_; (· (simp [hnt, Try.ntmps35, Try.results35, anWB435]; done)); (try (rotate_left; (· (intro hc; (try simp [hnt, Try.ntmps35, Try.results35, anWB435] at hc); done)))))) | (refine DW_ret ?_; simp [hnt, Try.ntmps35, Try.results35, anWB435]) | (refine DW_exit ?_; simp [hnt, Try.ntmps35, Try.results35, anWB435]) | (refine DW_skip ?_; simp [hnt, Try.ntmps35, Try.results35, anWB435]) | (intro hc; (try simp [hnt, Try.ntmps35, Try.results35, anWB435] at hc); done) | (intro hc; (try simp [hnt, Try.ntmps35, Try.results35, anWB435] at hc); (first | (exfalso; omega) | skip)) | (refine ⟨?_, ?_⟩; · omega) | omega | apply_assumption -exfalso -symm | (exfalso; omega)))
  refine DW_loop (X := {k : Nat // k ≤ l.length}) (fun k => ⟨[(0, dStrs l), (1, dStrs l), (5, .int .i64 k.1)], []⟩) (fun k => l.length - k.1) ⟨0, by omega⟩ (Sub.lit (by simp)) ?_
  rintro ⟨k, hk⟩
  by_cases hlt : k < l.length
  · obtain ⟨x, hx, hx', hxm⟩ := at_lt' hlt
    (repeat (first | (refine DW_seq fun K hK => ?_) | (refine DW_r anWB435 Try.mixed (by kernel_rfl) ?_; simp [hnt, Try.ntmps35, Try.results35, anWB435, dStr, hlt, hx, hx']; try simp (disch := omega) only [wrap64_in]) | (refine DW_block ?_) | (focus (refine DW_if ?_ ?_ ?_; (· (simp [hnt, Try.ntmps35, Try.results35, anWB435, dStr, hlt, hx, hx']; done)); (try (rotate_left; (· (intro hc; (try simp [hnt, Try.ntmps35, Try.results35, anWB435, dStr, hlt, hx, hx'] at hc); done)))))) | (refine DW_ret ?_; simp [hnt, Try.ntmps35, Try.results35, anWB435, dStr, hlt, hx, hx']) | (refine DW_exit ?_; simp [hnt, Try.ntmps35, Try.results35, anWB435, dStr, hlt, hx, hx']) | (refine DW_skip ?_; simp [hnt, Try.ntmps35, Try.results35, anWB435, dStr, hlt, hx, hx']) | (intro hc; (try simp [hnt, Try.ntmps35, Try.results35, anWB435, dStr, hlt, hx, hx'] at hc); done) | (intro hc; (try simp [hnt, Try.ntmps35, Try.results35, anWB435, dStr, hlt, hx, hx'] at hc); (first | (exfalso; omega) | skip)) | (refine ⟨?_, ?_⟩; · omega) | omega | apply_assumption -exfalso -symm | (exfalso; omega)))
    exact Again.mk ⟨k + 1, by omega⟩ (Sub.lit (by simp)) (by simp; omega)
    (repeat (first | (refine DW_seq fun K hK => ?_) | (refine DW_r anWB435 Try.mixed (by kernel_rfl) ?_; simp [hnt, Try.ntmps35, Try.results35, anWB435]; try simp (disch := omega) only [wrap64_in]) | (refine DW_block ?_) | (focus (refine DW_if ?_ ?_ ?_; (· (simp [hnt, Try.ntmps35, Try.results35, anWB435]; done)); (try (rotate_left; (· (intro hc; (try simp [hnt, Try.ntmps35, Try.results35, anWB435] at hc); done)))))) | (refine DW_ret ?_; simp [hnt, Try.ntmps35, Try.results35, anWB435]) | (refine DW_exit ?_; simp [hnt, Try.ntmps35, Try.results35, anWB435]) | (refine DW_skip ?_; simp [hnt, Try.ntmps35, Try.results35, anWB435]) | (intro hc; (try simp [hnt, Try.ntmps35, Try.results35, anWB435] at hc); done) | (intro hc; (try simp [hnt, Try.ntmps35, Try.results35, anWB435] at hc); (first | (exfalso; omega) | skip)) | (refine ⟨?_, ?_⟩; · omega) | omega | apply_assumption -exfalso -symm | (exfalso; omega)))
  · (repeat (first | (refine DW_seq fun K hK => ?_) | (refine DW_r anWB435 Try.mixed (by kernel_rfl) ?_; simp [hnt, Try.ntmps35, Try.results35, anWB435, hlt]; try simp (disch := omega) only [wrap64_in]) | (refine DW_block ?_) | (focus (refine DW_if ?_ ?_ ?_; (· (simp [hnt, Try.ntmps35, Try.results35, anWB435, hlt]; done)); (try (rotate_left; (· (intro hc; (try simp [hnt, Try.ntmps35, Try.results35, anWB435, hlt] at hc); done)))))) | (refine DW_ret ?_; simp [hnt, Try.ntmps35, Try.results35, anWB435, hlt]) | (refine DW_exit ?_; simp [hnt, Try.ntmps35, Try.results35, anWB435, hlt]) | (refine DW_skip ?_; simp [hnt, Try.ntmps35, Try.results35, anWB435, hlt]) | (intro hc; (try simp [hnt, Try.ntmps35, Try.results35, anWB435, hlt] at hc); done) | (intro hc; (try simp [hnt, Try.ntmps35, Try.results35, anWB435, hlt] at hc); (first | (exfalso; omega) | skip)) | (refine ⟨?_, ?_⟩; · omega) | omega | apply_assumption -exfalso -symm | (exfalso; omega)))
end Go.Proofs.Ytihkcegelghcpaa
end

