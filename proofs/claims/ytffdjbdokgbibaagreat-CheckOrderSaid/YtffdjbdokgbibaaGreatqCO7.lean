/- Parts of a proof, laid together: WE0, EnBl, Lays, LayTs, EnY, EnSt, WB0, WB2, WB3, EnSc, WB4. -/
import Derived.Shelf.Strings.BuilderF
import Derived.Shelf.SlSortCmp.NoneTotal
import Derived.Shelf.SortM.Plain
import Derived.Shelf.SortM.SortNone
import Derived.Shelf.SlGeneric
import Derived.Shelf.Small.Strs
import Derived.Ground.SlsfProg
import Derived.Ground.SlgmProg
import Derived.Test.YtffdjbdokgbibaaGreatChecked
import Derived.Lib.Builder
import Derived.WalkKit
import Derived.BigCall
import Derived.Scope
import Derived.Test.YtffdjbdokgbibaaGreatqCO6
section
/- Edges and ways in order, each once: plain Lean. -/


set_option linter.unusedSimpArgs false
set_option linter.unusedVariables false
namespace Go.Proofs.YtffdjbdokgbibaaGreat
open Go Go.Dm

theorem ordS : OrdC sCmp := by
  refine ⟨fun _ _ => sCmp_zero, fun x y => ?_, fun x y z h1 h2 => ?_⟩
  · rw [sCmp_neg]
    unfold sCmp
    cases h1 : sLess x y
    · cases h2 : sLess y x <;> simp
    · rw [sLess_asym h1]; simp
  · rw [sCmp_neg] at *; exact sLess_trans h1 h2
theorem ordE : OrdC eCmp := by
  have h := ordKey (ordLex ordS (ordLex ordS ordS)) (fun e : Edge => (e.fr, (e.lb, e.to))) (by
    rintro ⟨a, b, c⟩ ⟨a', b', c'⟩ hh
    simp only [_root_.Prod.mk.injEq] at hh
    obtain ⟨rfl, rfl, rfl⟩ := hh
    rfl)
  have e : eCmp = fun x y : Edge => lexC sCmp (lexC sCmp sCmp) (x.fr, (x.lb, x.to)) (y.fr, (y.lb, y.to)) := by
    funext x y
    unfold eCmp lexC
    simp only [ne_eq, ite_not]
  rw [e]; exact h
def rng (n : Int) : Prop := n = -1 ∨ n = 0 ∨ n = 1
theorem rng_s (a b : ByteArray) : rng (sCmp a b) := by unfold sCmp rng; split <;> (try split) <;> omega
theorem rng_e (a b : Edge) : rng (eCmp a b) := by
  unfold eCmp; split
  · exact rng_s _ _
  · split <;> exact rng_s _ _
theorem rng_i (a b : Int) : rng (cmpI a b) := by unfold cmpI rng; split <;> (try split) <;> omega
theorem rng_l {α : Type} {c : α → α → Int} (h : ∀ x y, rng (c x y)) : ∀ a b : List α, rng (cmpL c a b)
  | [], [] => by simp [cmpL, rng]
  | [], _ :: _ => by simp [cmpL, rng]
  | _ :: _, [] => by simp [cmpL, rng]
  | x :: a, y :: b => by
    unfold cmpL; split
    · exact rng_l h a b
    · exact h x y
/-- how two ways stand -/
def wayC (a b : List Edge) : Int := if cmpI a.length b.length = 0 then cmpL eCmp a b else cmpI a.length b.length
theorem ordW : OrdC wayC := ordKey (ordLex ordI (ordL ordE)) (fun a : List Edge => ((a.length : Int), a)) (fun x y hh => by simp only [_root_.Prod.mk.injEq] at hh; exact hh.2)
theorem rng_w (a b : List Edge) : rng (wayC a b) := by
  unfold wayC; split
  · exact rng_l rng_e _ _
  · exact rng_i _ _
theorem wayC_neg (a b : List Edge) : wayC b a = -wayC a b := by
  have h1 := ordW.anti a b
  have h2 := ordW.anti b a
  have h3 := rng_w a b
  have h4 := rng_w b a
  unfold rng at h3 h4
  omega
def lessL : List Edge → List Edge → Bool
  | x :: a, y :: b => if x = y then lessL a b else eLess x y
  | _, _ => false
def lessW (a b : List Edge) : Bool := if a.length = b.length then lessL a b else decide (a.length < b.length)
theorem lessL_eq : ∀ a b : List Edge, a.length = b.length → lessL a b = decide (cmpL eCmp a b < 0)
  | [], [], _ => by simp [lessL, cmpL]
  | x :: a, y :: b, h => by
    unfold lessL cmpL
    by_cases hxy : x = y
    · rw [if_pos hxy, if_pos ((ordE.eq0 _ _).2 hxy)]
      exact lessL_eq a b (by simpa using h)
    · rw [if_neg hxy, if_neg (fun hh => hxy ((ordE.eq0 _ _).1 hh))]
      cases hl : eLess x y
      · rw [decide_eq_false (fun hh => by rw [eCmp_neg, hl] at hh; simp at hh)]
      · rw [decide_eq_true (eCmp_neg.2 hl)]
theorem lessW_eq (a b : List Edge) : lessW a b = decide (wayC a b < 0) := by
  unfold lessW wayC
  by_cases h : a.length = b.length
  · rw [if_pos h, if_pos (by rw [ordI.eq0]; omega)]
    exact lessL_eq a b h
  · rw [if_neg h, if_neg (by rw [ordI.eq0]; omega)]
    refine decide_eq_decide.2 ?_
    unfold cmpI
    split <;> (try split) <;> omega
theorem cmpR_eq (a b : List Edge) : (if lessW a b then -1 else if lessW b a then 1 else 0 : Int) = wayC a b := by
  rw [lessW_eq, lessW_eq, wayC_neg a b]
  have h3 := rng_w a b
  unfold rng at h3
  by_cases h1 : wayC a b < 0
  · simp [h1]; omega
  · by_cases h2 : -wayC a b < 0
    · simp [h1, h2]; omega
    · simp [h1, h2]; omega
theorem lessL_at {a b : List Edge} {k : Nat} {x y : Edge} (hx : a[k]? = some x) (hy : b[k]? = some y) : lessL (a.drop k) (b.drop k) = if x = y then lessL (a.drop (k + 1)) (b.drop (k + 1)) else eLess x y := by
  obtain ⟨h1, rfl⟩ := List.getElem?_eq_some_iff.1 hx
  obtain ⟨h2, rfl⟩ := List.getElem?_eq_some_iff.1 hy
  rw [List.drop_eq_getElem_cons h1, List.drop_eq_getElem_cons h2, lessL]

/-- each once, in order -/
def uniqC {α : Type} (c : α → α → Int) (l : List α) : List α := compL (fun x y => c x y == 0) (sortC c l)
theorem uniqC_ok {α : Type} {c : α → α → Int} (h : OrdC c) (l : List α) : strictC c (uniqC c l) ∧ ∀ z, z ∈ uniqC c l ↔ z ∈ l := by
  obtain ⟨h1, h2⟩ := compL_strict h (sortC_sorted h l)
  exact ⟨h1, fun z => by unfold uniqC; rw [h2, (sortC_perm c l).mem_iff]⟩
theorem uniqC_len {α : Type} (c : α → α → Int) (l : List α) : (uniqC c l).length ≤ l.length := by
  have h := compL_len (e := fun x y => c x y == 0) (sortC c l)
  rw [(sortC_perm c l).length_eq] at h
  exact h
theorem uniqC_of {α : Type} {c : α → α → Int} (h : OrdC c) {a l : List α} (ha : strictC c a) (hm : ∀ z, z ∈ a ↔ z ∈ l) : a = uniqC c l := by
  obtain ⟨h1, h2⟩ := uniqC_ok h l
  exact strict_eq h ha h1 fun z => by rw [hm, h2]
/-- two lists in order as one -/
def mergeC {α : Type} (c : α → α → Int) : List α → List α → List α
  | [], [] => []
  | [], y :: b => y :: mergeC c [] b
  | x :: a, [] => x :: mergeC c a []
  | x :: a, y :: b => if c x y < 0 then x :: mergeC c a (y :: b) else if c x y = 0 then y :: mergeC c a b else y :: mergeC c (x :: a) b
termination_by a b => a.length + b.length
theorem mergeC_mem {α : Type} {c : α → α → Int} (h : OrdC c) : ∀ (a b : List α) (z : α), z ∈ mergeC c a b ↔ z ∈ a ∨ z ∈ b
  | [], [], z => by simp [mergeC]
  | [], y :: b, z => by simp [mergeC, mergeC_mem h [] b z]
  | x :: a, [], z => by simp [mergeC, mergeC_mem h a [] z]
  | x :: a, y :: b, z => by
    unfold mergeC
    split
    · simp only [List.mem_cons, mergeC_mem h a (y :: b) z]
      constructor
      · rintro (h | h | h | h) <;> simp [h]
      · rintro ((h | h) | h | h) <;> simp [h]
    · split
      · rename_i h1 h2
        have h2 : x = y := (h.eq0 _ _).1 h2
        subst h2
        simp only [List.mem_cons, mergeC_mem h a b z]
        constructor
        · rintro (h | h | h) <;> simp [h]
        · rintro ((h | h) | h | h) <;> simp [h]
      · simp only [List.mem_cons, mergeC_mem h (x :: a) b z]
        constructor
        · rintro (h | (h | h) | h) <;> simp [h]
        · rintro ((h | h) | h | h) <;> simp [h]
termination_by a b => a.length + b.length
theorem mergeC_strict {α : Type} {c : α → α → Int} (h : OrdC c) : ∀ (a b : List α), strictC c a → strictC c b → strictC c (mergeC c a b)
  | [], [], _, _ => by simp [mergeC, strictC]
  | [], y :: b, ha, hb => by
    obtain ⟨h1, h2⟩ := List.pairwise_cons.1 hb
    unfold mergeC
    refine List.pairwise_cons.2 ⟨fun z hz => ?_, mergeC_strict h [] b ha h2⟩
    rw [mergeC_mem h] at hz
    exact h1 z (by simpa using hz)
  | x :: a, [], ha, hb => by
    obtain ⟨h1, h2⟩ := List.pairwise_cons.1 ha
    unfold mergeC
    refine List.pairwise_cons.2 ⟨fun z hz => ?_, mergeC_strict h a [] h2 hb⟩
    rw [mergeC_mem h] at hz
    exact h1 z (by simpa using hz)
  | x :: a, y :: b, ha, hb => by
    obtain ⟨h1, h2⟩ := List.pairwise_cons.1 ha
    obtain ⟨h3, h4⟩ := List.pairwise_cons.1 hb
    unfold mergeC
    split
    · rename_i hlt
      refine List.pairwise_cons.2 ⟨fun z hz => ?_, mergeC_strict h a (y :: b) h2 hb⟩
      rw [mergeC_mem h] at hz
      rcases hz with hz | hz
      · exact h1 z hz
      · rcases List.mem_cons.1 hz with rfl | hz
        · exact hlt
        · exact h.trans _ _ _ hlt (h3 z hz)
    · rename_i hlt
      split
      · rename_i he
        have he : x = y := (h.eq0 _ _).1 he
        subst he
        refine List.pairwise_cons.2 ⟨fun z hz => ?_, mergeC_strict h a b h2 h4⟩
        rw [mergeC_mem h] at hz
        rcases hz with hz | hz
        · exact h1 z hz
        · exact h3 z hz
      · rename_i he
        have hyx : c y x < 0 := (h.anti y x).2 (by omega)
        refine List.pairwise_cons.2 ⟨fun z hz => ?_, mergeC_strict h (x :: a) b ha h4⟩
        rw [mergeC_mem h] at hz
        rcases hz with hz | hz
        · rcases List.mem_cons.1 hz with rfl | hz
          · exact hyx
          · exact h.trans _ _ _ hyx (h1 z hz)
        · exact h3 z hz
termination_by a b => a.length + b.length
theorem mergeC_uniq {α : Type} {c : α → α → Int} (h : OrdC c) (a b : List α) : mergeC c (uniqC c a) (uniqC c b) = uniqC c (a ++ b) := by
  obtain ⟨a1, a2⟩ := uniqC_ok h a
  obtain ⟨b1, b2⟩ := uniqC_ok h b
  exact uniqC_of h (mergeC_strict h _ _ a1 b1) fun x => by rw [mergeC_mem h, a2, b2, List.mem_append]
theorem uniqC_small {α : Type} {c : α → α → Int} (h : OrdC c) {l : List α} (hl : l.length < 2) : uniqC c l = l := by
  refine (uniqC_of h ?_ fun x => Iff.rfl).symm
  match l, hl with
  | [], _ => exact .nil
  | [a], _ => exact List.pairwise_singleton _ _
end Go.Proofs.YtffdjbdokgbibaaGreat
end

section
/- The data machine, second make, part Bl: strings.Builder: a row of one builder, typed, and its own row of bytes. -/


set_option linter.unusedSimpArgs false
set_option linter.unusedVariables false
namespace Go.Dm
open Go.Shelf Go.Proofs Go.RowKit

section
variable {P : Program} {B : Base} {s : DS} {a : Act} {w : World} {loc : Nat → Loc}

/-- a new variable of a type, as an own row of one element -/
theorem Rel.newTyped {id n k bs : Nat} {cs : List DVal} {us : List Value} {ty : TypeId} {dst : Option Nat} (R : Rel B s a w loc) (hlim : lim B s ≤ n) (hmx : mxL cs ≤ n) (hdst : ∀ i, dst = some i → i < B.nt)
    (hus : rdV (cu s loc) (hm s loc B.M0) w.heap cs us) (hone : ∀ u ∈ us, u.oneCell' = true) (hk : cs.length = k) (hbs : bs ≤ 150000000000000) :
    Rel B ⟨putS s.slots dst (.rx id n k 0 0), upE s.own id n (.row ty k bs [cs])⟩ (a.put dst (.pointer (some ⟨w.heap.size, 0, none⟩))) (w.alloc (.cells us.toArray ty)) (upL loc id ⟨[w.heap.size], .slice (some ⟨w.heap.size, 0, none⟩) 1 1⟩) := by
  have hw := Upd.alloc' (hotOf s.own loc) w (.cells us.toArray ty)
  have hL : ∀ b, b ∈ (⟨[w.heap.size], .slice (some ⟨w.heap.size, 0, none⟩) 1 1⟩ : Loc).blks → b < (w.alloc (.cells us.toArray ty)).heap.size ∧ ((∃ e ∈ s.own, e.id = id ∧ b ∈ (loc id).blks) ∨ w.heap.size ≤ b) := by
    intro b hb
    simp only [List.mem_singleton] at hb
    subst hb
    exact ⟨by simp, .inr (Nat.le_refl _)⟩
  have W := R.weakUp (obj := .row ty k bs [cs]) hlim hw hL (.inl (Nat.le_refl _))
  have hul := rdV_length _ _ hus
  refine R.up hlim hdst hw (fun b hb _ => by simp only [World.alloc, Array.getElem?_push]; rw [if_neg (by omega)]) hL (.inl (Nat.le_refl _)) ?_ ?_
  · refine ⟨by simpa using hbs, .inr ⟨w.heap.size, us.toArray, 1, rfl, rfl, heap_alloc_new w _, by simp, by unfold maxLen; omega, by simp; omega, ?_⟩⟩
    have := rdR_of (cur := curOf (upE s.own id n (.row ty k bs [cs])) (upL loc id ⟨[w.heap.size], .slice (some ⟨w.heap.size, 0, none⟩) 1 1⟩)) (M := hotOf (upE s.own id n (.row ty k bs [cs])) (upL loc id ⟨[w.heap.size], .slice (some ⟨w.heap.size, 0, none⟩) 1 1⟩) ++ B.M0) (H := (w.alloc (.cells us.toArray ty)).heap) k [cs] [us] [] rfl (by
      intro i c u hc hu
      cases i with
      | zero =>
        simp only [List.getElem?_cons_zero, Option.some.injEq] at hc hu
        subst hc; subst hu
        exact ⟨hk, rdV_weak W cs us hmx hus, hone⟩
      | succ i => simp at hc)
    simpa using this
  · simp only [rd]
    intro l hl
    rw [curOf_up] at hl
    simp only [Option.some.injEq] at hl
    subst hl
    exact ⟨_, rfl, by simp⟩

/-- a variable's making, the variable being kept as an own row of one element -/
theorem DW_allocT {id i k bs : Nat} {t ty : TypeId} {pos : String} {z : List DVal} {Q : Exit → DS → Prop} (hi : i < B.nt) (hz : tZero P t = some z) (hp : z.all (oneO []) = true) (hk : z.length = k) (hbs : bs ≤ 150000000000000)
    (h : ∀ r, lim B s ≤ r → Q .normal ⟨putS s.slots (some i) (.rx i r k 0 0), upE s.own i r (.row t k bs [z])⟩) : DW P B (.region id #[⟨some i, .alloc t, ty, pos, #[], none⟩] false) Q s := by
  intro a w loc R
  refine wpIn_region ?_
  rw [List.range_eq_range']
  show wpOpsIn _ _ _ _ _ [0] _ _
  simp only [wpOpsIn]
  have hw : Region.wanted (⟨some i, .alloc t, ty, pos, #[], none⟩ : Oper) (yielded #[⟨some i, .alloc t, ty, pos, #[], none⟩] a.tmps) = true := by simp [Region.wanted]
  simp only [List.getElem?_toArray, List.getElem?_cons_zero]
  rw [if_pos hw]
  obtain ⟨zv, hzr, rfl⟩ := tZero_ok (w := w) hz
  have hus : rdV (cu s loc) (hm s loc B.M0) w.heap (zv.cells.toList.map ofV1) zv.cells.toList := rdV_map_ofV1 _
  have hmx : mxL (zv.cells.toList.map ofV1) = 0 := by
    have h1 : ∀ v, mx (ofV1 v) = 0 := by
      intro v
      unfold ofV1
      split <;> (try split) <;> simp [mx]
    generalize zv.cells.toList = l
    induction l with
    | nil => simp [mxL]
    | cons v l ih => simp only [List.map_cons, mxL, h1, ih]; rfl
  have hone := oneO_all R.st (zv.cells.toList.map ofV1) zv.cells.toList (List.all_eq_true.2 fun d hd => oneO_nil (List.all_eq_true.1 hp d hd)) hus
  have R' := R.newTyped (id := i) (n := lim B s) (k := k) (bs := bs) (ty := t) (dst := some i) (Nat.le_refl _) (by omega) (fun j hj => by simp only [Option.some.injEq] at hj; omega) hus hone hk hbs
  have hrun : (execOp a.eval ⟨some i, .alloc t, ty, pos, #[], none⟩).run P w = .ok (.value (.pointer (some ⟨w.heap.size, 0, none⟩))) (w.alloc (.cells zv.cells.toList.toArray t)) := by
    simp [execOp, Instr.alloc, hzr, newVar, newRow]
  exact wp_val (fun c hc => by cases hc) hrun ⟨_, _, h _ (Nat.le_refl _), R'⟩
end

section
variable {P : Program} {ρ : Ren}
/-- a variable of a type lies in a row of variables of that type -/
theorem lies_same {T n : Nat} (hd : P.depth ≠ 0) (hs : P.cellsOf T ≠ 0) (hn : 1 ≤ n) : liesAt P P.depth T n 0 T 1 = true := by
  obtain ⟨d, hd⟩ : ∃ d, P.depth = d + 1 := ⟨P.depth - 1, by omega⟩
  have h1 : sameLayout P (d + 1) T T = true := by simp [sameLayout]
  rw [hd]
  unfold liesAt
  rw [hd]
  unfold rowAt
  simp [hs, hn, h1]

theorem upd_freeze (w : World) (g n : Nat) : Upd [g] w (w.drew.freeze ⟨g, 0, none⟩ n) := by
  unfold World.freeze
  split
  · exact Upd.drew _ w
  · refine ⟨rfl, rfl, rfl, Nat.le_succ _, by simp, fun b hb hne => ?_⟩
    simp only [List.mem_singleton] at hne
    simp only [Array.getElem?_modify]
    rw [if_neg (fun h => hne h.symm)]
    rfl

set_option maxHeartbeats 1000000 in
set_option maxRecDepth 100000 in
theorem builderString_some (L : Lays.n169 P ρ) (X : Builder.Extra P ρ) (b g cap : Nat) (p : Value) (cs cur : Array Value) (l : List UInt8) (w : World) (h0 : l ≠ []) (hb : w.heap[b]? = some (.cells cs (ρ.t 72) (0, 0))) (hb1 : cs[1]? = some (.slice (some ⟨g, 0, none⟩) l.length cap))
    (hg : w.heap[g]? = some (.cells cur (ρ.t 5) (0, 0))) (hnc : l.length ≤ cap) (hcm : cap ≤ maxLen) (hcs : cur.size = cap) (htake : cur.toList.take l.length = Lib.byteCells l) :
    Calls P (ρ.f 169) #[.pointer (some ⟨b, 0, none⟩)] w fun e w' => e = .returned (.string ⟨l.toArray⟩) ∧ Upd [g] w w' := by
  have hl0 : l.length ≠ 0 := by simpa using h0
  have c1 : w.drew.cell? ⟨b, 1, none⟩ = some (.slice (some ⟨g, 0, none⟩) l.length cap) := by
    have : w.drew.heap[b]? = some (.cells cs (ρ.t 72) (0, 0)) := hb
    rw [Lib.cell_of_heap this]; exact hb1
  have hSD : (Builtin.unsafeSliceData_ #[(ρ.t 37)] (ρ.t 127) #[.slice (some ⟨g, 0, none⟩) l.length cap]).run P w.drew = .ok (.pointer (some ⟨g, 0, none⟩)) w.drew :=
    Lib.run_unsafeSliceData_row _ _ _ _ _ _ (by omega)
  have hUS : (Builtin.unsafeString_ #[(ρ.t 127), (ρ.t 3)] (ρ.t 9) #[.pointer (some ⟨g, 0, none⟩), .int .i64 l.length]).run P w.drew = .ok (.string ⟨l.toArray⟩) (w.drew.freeze ⟨g, 0, none⟩ l.length) := by
    refine Lib.run_unsafeString_row w.drew (ρ.t 127) (ρ.t 3) (ρ.t 9) (ρ.t 5) L.t127 X.cellsByte g cur.size (by have hg' : w.drew.heap[g]? = some (.cells cur (ρ.t 5) (0, 0)) := hg; simp [World.shape?, hg']) l h0 (by omega) (by unfold maxLen at hcm; omega) ?_
    intro j x hx
    have hg' : w.drew.heap[g]? = some (.cells cur (ρ.t 5) (0, 0)) := hg
    have hadd : (⟨g, 0, none⟩ : Addr).add j = ⟨g, j, none⟩ := by unfold Addr.add; split <;> simp_all
    rw [hadd, Lib.cell_of_heap hg']
    have hj : j < l.length := (List.getElem?_eq_some_iff.1 hx).1
    have h2 : (Lib.byteCells l)[j]? = some (.int .u8 x.toNat) := by simp [Lib.byteCells, hx]
    rw [← htake, List.getElem?_take_of_lt hj] at h2
    simpa using h2
  have mixed := L.mixed
  have t72 := L.t72; have a72 := L.a72; have z72 := L.z72; have v72 := L.v72; have u72 := run_underlying L.t72
  have t70 := L.t70; have a70 := L.a70; have z70 := L.z70; have v70 := L.v70; have u70 := run_underlying L.t70
  have t37 := L.t37; have a37 := L.a37; have z37 := L.z37; have v37 := L.v37; have u37 := run_underlying L.t37
  have t127 := L.t127; have a127 := L.a127; have z127 := L.z127; have v127 := L.v127; have u127 := run_underlying L.t127
  have t3 := L.t3; have a3 := L.a3; have z3 := L.z3; have v3 := L.v3; have u3 := run_underlying L.t3
  have t9 := L.t9; have a9 := L.a9; have z9 := L.z9; have v9 := L.v9; have u9 := run_underlying L.t9
  have t5 := X.t5; have a5 := X.a5; have z5 := X.z5; have v5 := X.v5; have u5 := run_underlying X.t5
  go_enter L.f169, Body.n169_ntmps ρ
  go_wp2
  go_region_o
  all_goals (go_wp2; go_ret; exact ⟨rfl, upd_freeze w g l.length⟩)

set_option maxHeartbeats 1000000 in
set_option maxRecDepth 100000 in
theorem builderString_none (L : Lays.n169 P ρ) (X : Builder.Extra P ρ) (b : Nat) (cs : Array Value) (w : World) (hb : w.heap[b]? = some (.cells cs (ρ.t 72) (0, 0))) (hb1 : cs[1]? = some (.slice none 0 0)) :
    Calls P (ρ.f 169) #[.pointer (some ⟨b, 0, none⟩)] w fun e w' => e = .returned (.string ⟨#[]⟩) ∧ Upd [] w w' := by
  have hUS := Any.unsafeString_none L X
  have c1 : w.drew.cell? ⟨b, 1, none⟩ = some (.slice none 0 0) := by
    have : w.drew.heap[b]? = some (.cells cs (ρ.t 72) (0, 0)) := hb
    rw [Lib.cell_of_heap this]; exact hb1
  have hSD : (Builtin.unsafeSliceData_ #[(ρ.t 37)] (ρ.t 127) #[.slice none 0 0]).run P w.drew = .ok (.pointer none) w.drew := rfl
  have mixed := L.mixed
  have t72 := L.t72; have a72 := L.a72; have z72 := L.z72; have v72 := L.v72; have u72 := run_underlying L.t72
  have t70 := L.t70; have a70 := L.a70; have z70 := L.z70; have v70 := L.v70; have u70 := run_underlying L.t70
  have t37 := L.t37; have a37 := L.a37; have z37 := L.z37; have v37 := L.v37; have u37 := run_underlying L.t37
  have t127 := L.t127; have a127 := L.a127; have z127 := L.z127; have v127 := L.v127; have u127 := run_underlying L.t127
  have t3 := L.t3; have a3 := L.a3; have z3 := L.z3; have v3 := L.v3; have u3 := run_underlying L.t3
  have t9 := L.t9; have a9 := L.a9; have z9 := L.z9; have v9 := L.v9; have u9 := run_underlying L.t9
  have t5 := X.t5; have a5 := X.a5; have z5 := X.z5; have v5 := X.v5; have u5 := run_underlying X.t5
  go_enter L.f169, Body.n169_ntmps ρ
  go_wp2
  go_region_o
  all_goals (go_wp2; go_ret; exact ⟨rfl, Upd.drew _ w⟩)

/-- what a builder's row holds -/
theorem bld_cells {cur : Cur} {M : List Nat} {H : Array Obj} {d0 d1 : DVal} {arr : Array Value} (h : rdR cur M H 2 [[d0, d1]] arr 0) : ∃ v0 v1 rest, arr = (v0 :: v1 :: rest).toArray ∧ rd cur M H d0 v0 ∧ rd cur M H d1 v1 := by
  obtain ⟨rows, r1, r2, r3, r4⟩ := rdR_vals 2 _ arr 0 h
  match rows, r1 with
  | [us], _ =>
    obtain ⟨g1, g2, g3⟩ := r3 0 _ _ rfl rfl
    simp only [rdV] at g2
    obtain ⟨v0, r, rfl, h0, v1, r', rfl, h1, rfl⟩ := g2
    have e0 := (r4 0 v0 (by simp)).1
    have e1 := (r4 1 v1 (by simp)).1
    obtain ⟨l⟩ := arr
    match l, e0, e1 with
    | x :: y :: rest, e0, e1 =>
      simp at e0 e1
      subst e0; subst e1
      exact ⟨x, y, rest, rfl, h0, h1⟩
theorem bld_rdR {cur : Cur} {M : List Nat} {H : Array Obj} {d0 d1 : DVal} {v0 v1 : Value} {rest : List Value} (h0 : rd cur M H d0 v0) (h1 : rd cur M H d1 v1) (o0 : v0.oneCell' = true) (o1 : v1.oneCell' = true) : rdR cur M H 2 [[d0, d1]] (v0 :: v1 :: rest).toArray 0 := by
  have := rdR_of (cur := cur) (M := M) (H := H) 2 [[d0, d1]] [[v0, v1]] rest rfl (by
    intro i c u hc hu
    cases i with
    | zero =>
      simp only [List.getElem?_cons_zero, Option.some.injEq] at hc hu
      subst hc; subst hu
      exact ⟨rfl, ⟨v0, _, rfl, h0, v1, _, rfl, h1, rfl⟩, by simp [o0, o1]⟩
    | succ i => simp at hc)
  simpa using this

theorem copyCheck_spec1 {g T : Nat} (hd : P.depth ≠ 0) (hs : P.cellsOf T = 2) (hE : Enters P g) (bs : Nat)
    (hcc : ∀ (b n : Nat) (w : World), w.cell? ⟨b, 0, none⟩ = some (.pointer none) → w.shape? b = some (T, n) → 0 < n → liesAt P P.depth T (n / P.cellsOf T) 0 T 1 = true → w.frozen? ⟨b, 0, none⟩ = false →
      Calls P g #[.pointer (some ⟨b, 0, none⟩)] w fun e w' => e = .returned (.tuple #[]) ∧ w' = w.setCell ⟨b, 0, none⟩ (.pointer (some ⟨b, 0, none⟩))) :
    DSpec P (.func g) [.rx 0 0 2 0 0] [⟨0, 0, .row T 2 bs [[.nilp, .nilsl]]⟩] (.tup []) [⟨0, 0, .row T 2 bs [[.rx 0 0 2 0 0, .nilsl]]⟩] := by
  refine ⟨by simp, hE, fun M w loc vs S hvs => ?_⟩
  have hk := S.ok _ (List.mem_singleton.2 rfl)
  obtain ⟨hbs, hk⟩ := hk
  rcases hk with ⟨h, _⟩ | ⟨b, arr, cap, h1, h2, h3, h4, h5, h6, h7⟩
  · simp at h
  · obtain ⟨v0, v1, rest, rfl, g0, g1⟩ := bld_cells h7
    simp only [rd] at g0 g1
    subst g0; subst g1
    have hcur : curOf [(⟨0, 0, .row T 2 bs [[.nilp, .nilsl]]⟩ : Ent)] loc 0 0 = some (loc 0) := by simp [curOf, findE]
    simp only [rdV, rd] at hvs
    obtain ⟨pv, r, hvs, hp, rfl⟩ := hvs
    obtain ⟨b', hb', rfl⟩ := hp _ hcur
    simp only at h1 h2
    rw [h1] at hb'
    simp only [List.cons.injEq, and_true] at hb'
    subst hb'
    have hvs' : vs = #[.pointer (some ⟨b, 0, none⟩)] := by apply Array.ext'; simpa using hvs
    subst hvs'
    have hsz : 2 ≤ (Array.size (Value.pointer none :: Value.slice none 0 0 :: rest).toArray) := by simp
    refine ⟨hE, (hcc b (rest.length + 2) w (by rw [Lib.cell_of_heap h3]; rfl) (by simp [World.shape?, h3]) (by omega) (lies_same hd (by omega) (by rw [hs]; omega)) (Lib.frozen_of_heap h3 0)).mono ?_⟩
    rintro e w' ⟨rfl, rfl⟩
    refine ⟨_, rfl, loc, ?_, ?_, ?_, ?_, ?_⟩
    · have hset := setCell_eq_setRow w b 0 _ _ _ (.pointer (some ⟨b, 0, none⟩)) h3
      rw [hset]
      refine ⟨S.nd, S.bl, S.ap, fun q hq => by have := S.lt q hq; simpa using this, fun e he => ?_⟩
      simp only [List.mem_singleton] at he
      subst he
      refine ⟨hbs, .inr ⟨b, _, cap, h1, h2, setRow_heap w b _ _ _ (0, 0) h3, h4, h5, by simpa using h6, ?_⟩⟩
      have := bld_rdR (cur := curOf [(⟨0, 0, .row T 2 bs [[.rx 0 0 2 0 0, .nilsl]]⟩ : Ent)] loc) (M := hotOf [(⟨0, 0, .row T 2 bs [[.rx 0 0 2 0 0, .nilsl]]⟩ : Ent)] loc ++ M) (H := (w.setRow b ((Value.pointer none :: Value.slice none 0 0 :: rest).toArray.setIfInBounds 0 (.pointer (some ⟨b, 0, none⟩)))).heap)
        (d0 := .rx 0 0 2 0 0) (d1 := .nilsl) (v0 := .pointer (some ⟨b, 0, none⟩)) (v1 := .slice none 0 0) (rest := rest) (by
          simp only [rd]
          intro l hl
          have hc2 : curOf [(⟨0, 0, .row T 2 bs [[.rx 0 0 2 0 0, .nilsl]]⟩ : Ent)] loc 0 0 = some (loc 0) := by simp [curOf, findE]
          rw [hc2] at hl
          simp only [Option.some.injEq] at hl
          subst hl
          exact ⟨b, h1, by simp⟩) (by simp [rd]) rfl rfl
      simpa using this
    · refine ⟨rfl, rfl, rfl, Nat.le_refl _, by simp [World.setCell], fun q hq hne => ?_⟩
      have hqb : b ≠ q := by
        intro h
        subst h
        exact hne (by simp [hotOf, h1])
      simp [World.setCell, Array.getElem?_modify, hqb]
    · intro q hq
      exact .inl hq
    · intro e he _
      simp only [List.mem_singleton] at he
      subst he
      exact hcur
    · simp [rd, rdV]
theorem copyCheck_spec2 {g T : Nat} (hE : Enters P g) (bs : Nat) (q : DVal) (rest : List Ent) (hr : ∀ e ∈ rest, e.r = 0)
    (hcc : ∀ (b : Nat) (w : World), w.cell? ⟨b, 0, none⟩ = some (.pointer (some ⟨b, 0, none⟩)) → Calls P g #[.pointer (some ⟨b, 0, none⟩)] w fun e w' => e = .returned (.tuple #[]) ∧ w' = w) :
    DSpec P (.func g) [.rx 0 0 2 0 0] (⟨0, 0, .row T 2 bs [[.rx 0 0 2 0 0, q]]⟩ :: rest) (.tup []) (⟨0, 0, .row T 2 bs [[.rx 0 0 2 0 0, q]]⟩ :: rest) := by
  refine ⟨fun e he => by rcases List.mem_cons.1 he with rfl | he <;> simp_all, hE, fun M w loc vs S hvs => ?_⟩
  have hk := S.ok _ List.mem_cons_self
  obtain ⟨hbs, hk⟩ := hk
  rcases hk with ⟨h, _⟩ | ⟨b, arr, cap, h1, h2, h3, h4, h5, h6, h7⟩
  · simp at h
  · obtain ⟨v0, v1, rs, rfl, g0, g1⟩ := bld_cells h7
    simp only [rd] at g0
    have hcur : curOf ((⟨0, 0, .row T 2 bs [[.rx 0 0 2 0 0, q]]⟩ : Ent) :: rest) loc 0 0 = some (loc 0) := by simp [curOf, findE]
    obtain ⟨b0, hb0, rfl⟩ := g0 _ hcur
    simp only [rdV, rd] at hvs
    obtain ⟨pv, r, hvs, hp, rfl⟩ := hvs
    obtain ⟨b', hb', rfl⟩ := hp _ hcur
    simp only at h1 h2
    rw [h1] at hb' hb0
    simp only [List.cons.injEq, and_true] at hb' hb0
    subst hb'; subst hb0
    have hvs' : vs = #[.pointer (some ⟨b, 0, none⟩)] := by apply Array.ext'; simpa using hvs
    subst hvs'
    refine ⟨hE, (hcc b w (by rw [Lib.cell_of_heap h3]; rfl)).mono ?_⟩
    rintro e w' ⟨rfl, rfl⟩
    refine ⟨_, rfl, loc, S, Upd.refl _ _, fun q hq => .inl hq, fun e he _ => curOf_self S.nd he, by simp [rd, rdV]⟩

theorem builderString_spec1 (L : Lays.n169 P ρ) (X : Builder.Extra P ρ) (hE : Enters P (ρ.f 169)) (bs : Nat) :
    DSpec P (.func (ρ.f 169)) [.rx 0 0 2 0 0] [⟨0, 0, .row (ρ.t 72) 2 bs [[.nilp, .nilsl]]⟩] (.str ⟨#[]⟩) [] := by
  refine ⟨by simp, hE, fun M w loc vs S hvs => ?_⟩
  have hk := S.ok _ (List.mem_singleton.2 rfl)
  obtain ⟨hbs, hk⟩ := hk
  rcases hk with ⟨h, _⟩ | ⟨b, arr, cap, h1, h2, h3, h4, h5, h6, h7⟩
  · simp at h
  · obtain ⟨v0, v1, rest, rfl, g0, g1⟩ := bld_cells h7
    simp only [rd] at g0 g1
    subst g0; subst g1
    have hcur : curOf [(⟨0, 0, .row (ρ.t 72) 2 bs [[.nilp, .nilsl]]⟩ : Ent)] loc 0 0 = some (loc 0) := by simp [curOf, findE]
    simp only [rdV, rd] at hvs
    obtain ⟨pv, r, hvs, hp, rfl⟩ := hvs
    obtain ⟨b', hb', rfl⟩ := hp _ hcur
    simp only at h1 h2
    rw [h1] at hb'
    simp only [List.cons.injEq, and_true] at hb'
    subst hb'
    have hvs' : vs = #[.pointer (some ⟨b, 0, none⟩)] := by apply Array.ext'; simpa using hvs
    subst hvs'
    refine ⟨hE, (builderString_none L X b _ w h3 rfl).mono ?_⟩
    rintro e w' ⟨rfl, hu⟩
    refine ⟨_, rfl, loc, ⟨by simp, by simp [hotOf], by simp [hotOf], fun q hq => ?_, by simp⟩, hu.nil, by simp [hotOf], by simp, by simp only [rd]; exact ⟨trivial, Nat.zero_le _⟩⟩
    have := S.lt q (List.mem_append_right _ (by simpa [hotOf] using hq))
    exact Nat.lt_of_lt_of_le this hu.size
theorem builderString_spec2 (L : Lays.n169 P ρ) (X : Builder.Extra P ρ) (hE : Enters P (ρ.f 169)) (bs : Nat) (x : ByteArray) (hx : x.size ≠ 0) :
    DSpec P (.func (ρ.f 169)) [.rx 0 0 2 0 0] [⟨0, 0, .row (ρ.t 72) 2 bs [[.rx 0 0 2 0 0, .osl 1 0]]⟩, ⟨1, 0, .row (ρ.t 5) 1 1 (bytesD x)⟩] (.str x) [] := by
  refine ⟨by simp, hE, fun M w loc vs S hvs => ?_⟩
  have hk := S.ok _ List.mem_cons_self
  have hk2 := S.ok _ (List.mem_cons_of_mem _ List.mem_cons_self)
  obtain ⟨hbs, hk⟩ := hk
  obtain ⟨hbs2, hk2⟩ := hk2
  rcases hk with ⟨h, _⟩ | ⟨b, arr, cap, h1, h2, h3, h4, h5, h6, h7⟩
  · simp at h
  rcases hk2 with ⟨h, _⟩ | ⟨g, cur, cap2, k1, k2, k3, k4, k5, k6, k7⟩
  · have := congrArg List.length h
    rw [bytesD_len] at this
    exact absurd this hx
  · obtain ⟨v0, v1, rest, rfl, g0, g1⟩ := bld_cells h7
    simp only [rd] at g0 g1
    have hcur : curOf [(⟨0, 0, .row (ρ.t 72) 2 bs [[.rx 0 0 2 0 0, .osl 1 0]]⟩ : Ent), ⟨1, 0, .row (ρ.t 5) 1 1 (bytesD x)⟩] loc 0 0 = some (loc 0) := by simp [curOf, findE]
    have hcur1 : curOf [(⟨0, 0, .row (ρ.t 72) 2 bs [[.rx 0 0 2 0 0, .osl 1 0]]⟩ : Ent), ⟨1, 0, .row (ρ.t 5) 1 1 (bytesD x)⟩] loc 1 0 = some (loc 1) := by simp [curOf, findE]
    have hv1 := g1 _ hcur1
    simp only at k1 k2
    rw [k2, bytesD_len] at hv1
    subst hv1
    simp only [rdV, rd] at hvs
    obtain ⟨pv, r, hvs, hp, rfl⟩ := hvs
    obtain ⟨b', hb', rfl⟩ := hp _ hcur
    simp only at h1 h2
    rw [h1] at hb'
    simp only [List.cons.injEq, and_true] at hb'
    subst hb'
    have hvs' : vs = #[.pointer (some ⟨b, 0, none⟩)] := by apply Array.ext'; simpa using hvs
    subst hvs'
    have hxl : x.data.toList.length = x.size := rfl
    obtain ⟨rows, r1, r2, r3, r4⟩ := rdR_vals 1 _ cur 0 k7
    have hfl : rows.flatten = Lib.byteCells x.data.toList := by
      have : ∀ (bl : List UInt8) (rows : List (List Value)), rows.length = bl.length → (∀ (i : Nat) (cs : List DVal) (us : List Value), (bl.map fun b => [DVal.int .u8 (b.toNat : Int)])[i]? = some cs → rows[i]? = some us → cs.length = 1 ∧ rdV (curOf [(⟨0, 0, .row (ρ.t 72) 2 bs [[.rx 0 0 2 0 0, .osl 1 0]]⟩ : Ent), ⟨1, 0, .row (ρ.t 5) 1 1 (bytesD x)⟩] loc) (hotOf [(⟨0, 0, .row (ρ.t 72) 2 bs [[.rx 0 0 2 0 0, .osl 1 0]]⟩ : Ent), ⟨1, 0, .row (ρ.t 5) 1 1 (bytesD x)⟩] loc ++ M) w.heap cs us ∧ ∀ u ∈ us, u.oneCell' = true) → rows.flatten = Lib.byteCells bl := by
        intro bl
        induction bl with
        | nil => intro rows hl _; rw [List.eq_nil_of_length_eq_zero hl]; rfl
        | cons y bl ih =>
          intro rows hl h
          match rows, hl with
          | us :: rows, hl =>
            obtain ⟨_, h1, _⟩ := h 0 _ _ rfl rfl
            simp only [rdV, rd] at h1
            obtain ⟨v, r, rfl, ⟨rfl, _⟩, rfl⟩ := h1
            have := ih rows (by simpa using hl) fun i cs us hc hu => h (i + 1) cs us (by simpa using hc) (by simpa using hu)
            simp [this, Lib.byteCells]
      exact this x.data.toList rows (by rw [r1, bytesD_len]; rfl) r3
    rw [bytesD_len] at k4 r2
    have hcsz : cur.size = cap2 := by omega
    have ht := take_flat r2 r4 (by omega)
    rw [hfl, Nat.mul_one] at ht
    refine ⟨hE, (builderString_some L X b g cap2 v0 _ cur x.data.toList w (fun h => hx (by rw [← hxl, h]; rfl)) h3 rfl k3 k4 k5 hcsz ht).mono ?_⟩
    rintro e w' ⟨rfl, hu⟩
    refine ⟨_, rfl, loc, ⟨by simp, by simp [hotOf], by simp [hotOf], fun q hq => ?_, by simp⟩, ?_, by simp [hotOf], by simp, ?_⟩
    · have := S.lt q (List.mem_append_right _ (by simpa [hotOf] using hq))
      exact Nat.lt_of_lt_of_le this hu.size
    · refine ⟨hu.os, hu.tape, hu.output, hu.drawn, hu.size, fun q hq hne => hu.blk q hq fun hm => hne ?_⟩
      simp only [List.mem_singleton] at hm
      subst hm
      simp [hotOf, k1]
    · simp only [rd]
      exact ⟨trivial, by omega⟩
end
end Go.Dm
end

section
/-
  DERIVED: THE SHELF's CONTRACTS AT THIS DUMP, IN PLAIN WORDS (tools/lay-plain.mjs out of 'YtffdjbdokgbibaaGreatLay.lean', which tools/lay-shelf.mjs wrote): THE SAME DECLARATIONS UNDER THE SAME NAMES: 'import', 'namespace', 'open', 'def', 'theorem' AND NOTHING ELSE: no command of the shelf's: FOR A HAND-IN. Each laying: the table of numbers ('.._ren') and one theorem, a field a fact of the dump's own or the kernel's comparison; each contract: ONE APPLICATION.
-/









namespace Go.Proofs
open Go.Shelf
def Tryz.sortFStr_ren : Go.Shelf.Ren := ⟨fun | 6 => 58 | 15 => 72 | 14 => 71 | 28 => 89 | 29 => 90 | 20 => 81 | 21 => 82 | 22 => 83 | 23 => 84 | 24 => 85 | 25 => 86 | 26 => 87 | 27 => 88 | 46 => 101 | 47 => 102 | 48 => 103 | 49 => 104 | 50 => 105 | 57 => 119 | n => n, fun | 22 => 25 | 24 => 9 | 25 => 48 | 3 => 3 | 39 => 79 | 0 => 0 | 53 => 101 | 55 => 103 | 4 => 4 | 46 => 94 | 45 => 93 | 50 => 98 | 5 => 5 | 9 => 9 | 66 => 111 | 70 => 115 | 76 => 127 | 77 => 128 | n => n, fun | n => n⟩
theorem Tryz.sortFStr : Go.Proofs.SlLaysF.n6 Tryz.prog Tryz.sortFStr_ren := {
  mixed := by kernel_rfl
  f6 := ⟨Tryz.f58.name, by decide, Tryz.func58.trans (congrArg some (by kernel_rfl))⟩
  f14 := ⟨Tryz.f71.name, by decide, Tryz.func71.trans (congrArg some (by kernel_rfl))⟩
  f15 := Tryz.func72.trans (congrArg some (by kernel_rfl))
  f20 := ⟨Tryz.f81.name, by decide, Tryz.func81.trans (congrArg some (by kernel_rfl))⟩
  f21 := ⟨Tryz.f82.name, by decide, Tryz.func82.trans (congrArg some (by kernel_rfl))⟩
  f22 := ⟨Tryz.f83.name, by decide, Tryz.func83.trans (congrArg some (by kernel_rfl))⟩
  f23 := ⟨Tryz.f84.name, by decide, Tryz.func84.trans (congrArg some (by kernel_rfl))⟩
  f24 := ⟨Tryz.f85.name, by decide, Tryz.func85.trans (congrArg some (by kernel_rfl))⟩
  f25 := ⟨Tryz.f86.name, by decide, Tryz.func86.trans (congrArg some (by kernel_rfl))⟩
  f26 := ⟨Tryz.f87.name, by decide, Tryz.func87.trans (congrArg some (by kernel_rfl))⟩
  f27 := ⟨Tryz.f88.name, by decide, Tryz.func88.trans (congrArg some (by kernel_rfl))⟩
  f28 := Tryz.func89.trans (congrArg some (by kernel_rfl))
  f29 := Tryz.func90.trans (congrArg some (by kernel_rfl))
  f46 := ⟨Tryz.f101.name, by decide, Tryz.func101.trans (congrArg some (by kernel_rfl))⟩
  f47 := Tryz.func102.trans (congrArg some (by kernel_rfl))
  f48 := Tryz.func103.trans (congrArg some (by kernel_rfl))
  f49 := ⟨Tryz.f104.name, by decide, Tryz.func104.trans (congrArg some (by kernel_rfl))⟩
  f50 := ⟨Tryz.f105.name, by decide, Tryz.func105.trans (congrArg some (by kernel_rfl))⟩
  f57 := ⟨Tryz.f119.name, by decide, Tryz.func119.trans (congrArg some (by kernel_rfl))⟩
  t0 := Tryz.underlying0
  a0 := Tryz.isAgg0
  z0 := Tryz.sizeOf0
  v0 := Tryz.zeroValue0
  t3 := Tryz.underlying3
  a3 := Tryz.isAgg3
  z3 := Tryz.sizeOf3
  v3 := Tryz.zeroValue3
  t4 := Tryz.underlying4
  a4 := Tryz.isAgg4
  z4 := Tryz.sizeOf4
  v4 := Tryz.zeroValue4
  t5 := Tryz.underlying5
  a5 := Tryz.isAgg5
  z5 := Tryz.sizeOf5
  v5 := Tryz.zeroValue5
  t9 := Tryz.underlying9
  a9 := Tryz.isAgg9
  z9 := Tryz.sizeOf9
  v9 := Tryz.zeroValue9
  t22 := Tryz.underlying25
  a22 := Tryz.isAgg25
  z22 := Tryz.sizeOf25
  v22 := Tryz.zeroValue25
  a24 := Tryz.isAgg9
  z24 := Tryz.sizeOf9
  t25 := Tryz.underlying48
  a25 := Tryz.isAgg48
  z25 := Tryz.sizeOf48
  v25 := Tryz.zeroValue48
  t39 := Tryz.underlying79
  a39 := Tryz.isAgg79
  z39 := Tryz.sizeOf79
  v39 := Tryz.zeroValue79
  t45 := Tryz.underlying93
  a45 := Tryz.isAgg93
  z45 := Tryz.sizeOf93
  v45 := Tryz.zeroValue93
  t46 := Tryz.underlying94
  a46 := Tryz.isAgg94
  z46 := Tryz.sizeOf94
  v46 := Tryz.zeroValue94
  t50 := Tryz.underlying98
  a50 := Tryz.isAgg98
  z50 := Tryz.sizeOf98
  v50 := Tryz.zeroValue98
  t53 := Tryz.underlying101
  a53 := Tryz.isAgg101
  z53 := Tryz.sizeOf101
  v53 := Tryz.zeroValue101
  t55 := Tryz.underlying103
  a55 := Tryz.isAgg103
  z55 := Tryz.sizeOf103
  v55 := Tryz.zeroValue103
  t66 := Tryz.underlying111
  a66 := Tryz.isAgg111
  z66 := Tryz.sizeOf111
  v66 := Tryz.zeroValue111
  t70 := Tryz.underlying115
  a70 := Tryz.isAgg115
  z70 := Tryz.sizeOf115
  v70 := Tryz.zeroValue115
  t76 := Tryz.underlying127
  a76 := Tryz.isAgg127
  z76 := Tryz.sizeOf127
  v76 := Tryz.zeroValue127
  t77 := Tryz.underlying128
  a77 := Tryz.isAgg128
  z77 := Tryz.sizeOf128
  v77 := Tryz.zeroValue128 }
def Tryz.sortFEdge_ren : Go.Shelf.Ren := ⟨fun | 6 => 62 | 15 => 72 | 14 => 74 | 28 => 89 | 29 => 90 | 20 => 91 | 21 => 92 | 22 => 93 | 23 => 94 | 24 => 95 | 25 => 96 | 26 => 97 | 27 => 98 | 46 => 106 | 47 => 102 | 48 => 103 | 49 => 107 | 50 => 108 | 57 => 120 | n => n, fun | 22 => 24 | 24 => 40 | 25 => 41 | 3 => 3 | 39 => 79 | 0 => 0 | 53 => 101 | 55 => 103 | 4 => 4 | 46 => 94 | 45 => 93 | 50 => 98 | 5 => 5 | 9 => 9 | 66 => 111 | 70 => 115 | 76 => 127 | 77 => 128 | n => n, fun | n => n⟩
theorem Tryz.sortFEdge : Go.Proofs.SlLaysF0.n6 Tryz.prog Tryz.sortFEdge_ren := {
  mixed := by kernel_rfl
  f6 := ⟨Tryz.f62.name, by decide, Tryz.func62.trans (congrArg some (by kernel_rfl))⟩
  f14 := ⟨Tryz.f74.name, by decide, Tryz.func74.trans (congrArg some (by kernel_rfl))⟩
  f15 := Tryz.func72.trans (congrArg some (by kernel_rfl))
  f20 := ⟨Tryz.f91.name, by decide, Tryz.func91.trans (congrArg some (by kernel_rfl))⟩
  f21 := ⟨Tryz.f92.name, by decide, Tryz.func92.trans (congrArg some (by kernel_rfl))⟩
  f22 := ⟨Tryz.f93.name, by decide, Tryz.func93.trans (congrArg some (by kernel_rfl))⟩
  f23 := ⟨Tryz.f94.name, by decide, Tryz.func94.trans (congrArg some (by kernel_rfl))⟩
  f24 := ⟨Tryz.f95.name, by decide, Tryz.func95.trans (congrArg some (by kernel_rfl))⟩
  f25 := ⟨Tryz.f96.name, by decide, Tryz.func96.trans (congrArg some (by kernel_rfl))⟩
  f26 := ⟨Tryz.f97.name, by decide, Tryz.func97.trans (congrArg some (by kernel_rfl))⟩
  f27 := ⟨Tryz.f98.name, by decide, Tryz.func98.trans (congrArg some (by kernel_rfl))⟩
  f28 := Tryz.func89.trans (congrArg some (by kernel_rfl))
  f29 := Tryz.func90.trans (congrArg some (by kernel_rfl))
  f46 := ⟨Tryz.f106.name, by decide, Tryz.func106.trans (congrArg some (by kernel_rfl))⟩
  f47 := Tryz.func102.trans (congrArg some (by kernel_rfl))
  f48 := Tryz.func103.trans (congrArg some (by kernel_rfl))
  f49 := ⟨Tryz.f107.name, by decide, Tryz.func107.trans (congrArg some (by kernel_rfl))⟩
  f50 := ⟨Tryz.f108.name, by decide, Tryz.func108.trans (congrArg some (by kernel_rfl))⟩
  f57 := ⟨Tryz.f120.name, by decide, Tryz.func120.trans (congrArg some (by kernel_rfl))⟩
  t0 := Tryz.underlying0
  a0 := Tryz.isAgg0
  z0 := Tryz.sizeOf0
  v0 := Tryz.zeroValue0
  t3 := Tryz.underlying3
  a3 := Tryz.isAgg3
  z3 := Tryz.sizeOf3
  v3 := Tryz.zeroValue3
  t4 := Tryz.underlying4
  a4 := Tryz.isAgg4
  z4 := Tryz.sizeOf4
  v4 := Tryz.zeroValue4
  t5 := Tryz.underlying5
  a5 := Tryz.isAgg5
  z5 := Tryz.sizeOf5
  v5 := Tryz.zeroValue5
  t9 := Tryz.underlying9
  a9 := Tryz.isAgg9
  z9 := Tryz.sizeOf9
  v9 := Tryz.zeroValue9
  t22 := Tryz.underlying24
  a22 := Tryz.isAgg24
  z22 := Tryz.sizeOf24
  v22 := Tryz.zeroValue24
  t25 := Tryz.underlying41
  a25 := Tryz.isAgg41
  z25 := Tryz.sizeOf41
  v25 := Tryz.zeroValue41
  t39 := Tryz.underlying79
  a39 := Tryz.isAgg79
  z39 := Tryz.sizeOf79
  v39 := Tryz.zeroValue79
  t45 := Tryz.underlying93
  a45 := Tryz.isAgg93
  z45 := Tryz.sizeOf93
  v45 := Tryz.zeroValue93
  t46 := Tryz.underlying94
  a46 := Tryz.isAgg94
  z46 := Tryz.sizeOf94
  v46 := Tryz.zeroValue94
  t50 := Tryz.underlying98
  a50 := Tryz.isAgg98
  z50 := Tryz.sizeOf98
  v50 := Tryz.zeroValue98
  t53 := Tryz.underlying101
  a53 := Tryz.isAgg101
  z53 := Tryz.sizeOf101
  v53 := Tryz.zeroValue101
  t55 := Tryz.underlying103
  a55 := Tryz.isAgg103
  z55 := Tryz.sizeOf103
  v55 := Tryz.zeroValue103
  t66 := Tryz.underlying111
  a66 := Tryz.isAgg111
  z66 := Tryz.sizeOf111
  v66 := Tryz.zeroValue111
  t70 := Tryz.underlying115
  a70 := Tryz.isAgg115
  z70 := Tryz.sizeOf115
  v70 := Tryz.zeroValue115
  t76 := Tryz.underlying127
  a76 := Tryz.isAgg127
  z76 := Tryz.sizeOf127
  v76 := Tryz.zeroValue127
  t77 := Tryz.underlying128
  a77 := Tryz.isAgg128
  z77 := Tryz.sizeOf128
  v77 := Tryz.zeroValue128 }
def Tryz.sortStr_ren : Go.Shelf.Ren := ⟨fun | 6 => 76 | 8 => 72 | 9 => 99 | 19 => 89 | 20 => 90 | 21 => 109 | 22 => 110 | 23 => 111 | 24 => 112 | 25 => 113 | 26 => 114 | 27 => 115 | 28 => 116 | 29 => 117 | 36 => 121 | 31 => 102 | 32 => 103 | 37 => 122 | 38 => 123 | 39 => 40 | 41 => 124 | n => n, fun | 27 => 25 | 29 => 9 | 3 => 3 | 32 => 79 | 26 => 25 | 0 => 0 | 44 => 101 | 46 => 103 | 4 => 4 | 36 => 94 | 35 => 93 | 41 => 98 | 5 => 5 | 9 => 9 | 53 => 111 | 57 => 115 | 63 => 127 | 64 => 128 | n => n, fun | n => n⟩
theorem Tryz.sortStr : Go.Proofs.SlLaysM.n6 Tryz.prog Tryz.sortStr_ren := {
  mixed := by kernel_rfl
  f6 := ⟨Tryz.f76.name, by decide, Tryz.func76.trans (congrArg some (by kernel_rfl))⟩
  f8 := Tryz.func72.trans (congrArg some (by kernel_rfl))
  f9 := ⟨Tryz.f99.name, by decide, Tryz.func99.trans (congrArg some (by kernel_rfl))⟩
  f19 := Tryz.func89.trans (congrArg some (by kernel_rfl))
  f20 := Tryz.func90.trans (congrArg some (by kernel_rfl))
  f21 := ⟨Tryz.f109.name, by decide, Tryz.func109.trans (congrArg some (by kernel_rfl))⟩
  f22 := ⟨Tryz.f110.name, by decide, Tryz.func110.trans (congrArg some (by kernel_rfl))⟩
  f23 := ⟨Tryz.f111.name, by decide, Tryz.func111.trans (congrArg some (by kernel_rfl))⟩
  f24 := ⟨Tryz.f112.name, by decide, Tryz.func112.trans (congrArg some (by kernel_rfl))⟩
  f25 := ⟨Tryz.f113.name, by decide, Tryz.func113.trans (congrArg some (by kernel_rfl))⟩
  f26 := ⟨Tryz.f114.name, by decide, Tryz.func114.trans (congrArg some (by kernel_rfl))⟩
  f27 := ⟨Tryz.f115.name, by decide, Tryz.func115.trans (congrArg some (by kernel_rfl))⟩
  f28 := ⟨Tryz.f116.name, by decide, Tryz.func116.trans (congrArg some (by kernel_rfl))⟩
  f29 := ⟨Tryz.f117.name, by decide, Tryz.func117.trans (congrArg some (by kernel_rfl))⟩
  f31 := Tryz.func102.trans (congrArg some (by kernel_rfl))
  f32 := Tryz.func103.trans (congrArg some (by kernel_rfl))
  f36 := ⟨Tryz.f121.name, by decide, Tryz.func121.trans (congrArg some (by kernel_rfl))⟩
  f37 := ⟨Tryz.f122.name, by decide, Tryz.func122.trans (congrArg some (by kernel_rfl))⟩
  f38 := ⟨Tryz.f123.name, by decide, Tryz.func123.trans (congrArg some (by kernel_rfl))⟩
  f39 := ⟨Tryz.f40.name, by decide, Tryz.func40.trans (congrArg some (by kernel_rfl))⟩
  f41 := ⟨Tryz.f124.name, by decide, Tryz.func124.trans (congrArg some (by kernel_rfl))⟩
  t0 := Tryz.underlying0
  a0 := Tryz.isAgg0
  z0 := Tryz.sizeOf0
  v0 := Tryz.zeroValue0
  t3 := Tryz.underlying3
  a3 := Tryz.isAgg3
  z3 := Tryz.sizeOf3
  v3 := Tryz.zeroValue3
  t4 := Tryz.underlying4
  a4 := Tryz.isAgg4
  z4 := Tryz.sizeOf4
  v4 := Tryz.zeroValue4
  t5 := Tryz.underlying5
  a5 := Tryz.isAgg5
  z5 := Tryz.sizeOf5
  v5 := Tryz.zeroValue5
  t9 := Tryz.underlying9
  a9 := Tryz.isAgg9
  z9 := Tryz.sizeOf9
  v9 := Tryz.zeroValue9
  t26 := Tryz.underlying25
  a26 := Tryz.isAgg25
  z26 := Tryz.sizeOf25
  v26 := Tryz.zeroValue25
  t27 := Tryz.underlying25
  a27 := Tryz.isAgg25
  z27 := Tryz.sizeOf25
  v27 := Tryz.zeroValue25
  t29 := Tryz.underlying9
  a29 := Tryz.isAgg9
  z29 := Tryz.sizeOf9
  v29 := Tryz.zeroValue9
  t32 := Tryz.underlying79
  a32 := Tryz.isAgg79
  z32 := Tryz.sizeOf79
  v32 := Tryz.zeroValue79
  t35 := Tryz.underlying93
  a35 := Tryz.isAgg93
  z35 := Tryz.sizeOf93
  v35 := Tryz.zeroValue93
  t36 := Tryz.underlying94
  a36 := Tryz.isAgg94
  z36 := Tryz.sizeOf94
  v36 := Tryz.zeroValue94
  t41 := Tryz.underlying98
  a41 := Tryz.isAgg98
  z41 := Tryz.sizeOf98
  v41 := Tryz.zeroValue98
  t44 := Tryz.underlying101
  a44 := Tryz.isAgg101
  z44 := Tryz.sizeOf101
  v44 := Tryz.zeroValue101
  t46 := Tryz.underlying103
  a46 := Tryz.isAgg103
  z46 := Tryz.sizeOf103
  v46 := Tryz.zeroValue103
  t53 := Tryz.underlying111
  a53 := Tryz.isAgg111
  z53 := Tryz.sizeOf111
  v53 := Tryz.zeroValue111
  t57 := Tryz.underlying115
  a57 := Tryz.isAgg115
  z57 := Tryz.sizeOf115
  v57 := Tryz.zeroValue115
  t63 := Tryz.underlying127
  a63 := Tryz.isAgg127
  z63 := Tryz.sizeOf127
  v63 := Tryz.zeroValue127
  t64 := Tryz.underlying128
  a64 := Tryz.isAgg128
  z64 := Tryz.sizeOf128
  v64 := Tryz.zeroValue128 }
def Tryz.strCmp_ren : Go.Shelf.Ren := ⟨fun | 106 => 45 | 213 => 60 | 265 => 73 | n => n, fun | 9 => 9 | 3 => 3 | n => n, fun | n => n⟩
theorem Tryz.strCmp : Go.Proofs.Lays.n106 Tryz.prog Tryz.strCmp_ren := {
  mixed := by kernel_rfl
  f106 := Tryz.func45.trans (congrArg some (by kernel_rfl))
  f213 := Tryz.func60.trans (congrArg some (by kernel_rfl))
  f265 := Tryz.func73.trans (congrArg some (by kernel_rfl))
  t3 := Tryz.underlying3
  a3 := Tryz.isAgg3
  z3 := Tryz.sizeOf3
  v3 := Tryz.zeroValue3
  t9 := Tryz.underlying9
  a9 := Tryz.isAgg9
  z9 := Tryz.sizeOf9
  v9 := Tryz.zeroValue9 }
def Tryz.bldString_ren : Go.Shelf.Ren := ⟨fun | 169 => 79 | n => n, fun | 70 => 83 | 9 => 9 | 0 => 0 | 72 => 86 | 37 => 84 | 127 => 110 | 3 => 3 | 5 => 5 | n => n, fun | n => n⟩
theorem Tryz.bldString : Go.Proofs.Lays.n169 Tryz.prog Tryz.bldString_ren := {
  mixed := by kernel_rfl
  f169 := Tryz.func79.trans (congrArg some (by kernel_rfl))
  t0 := Tryz.underlying0
  a0 := Tryz.isAgg0
  z0 := Tryz.sizeOf0
  v0 := Tryz.zeroValue0
  t3 := Tryz.underlying3
  a3 := Tryz.isAgg3
  z3 := Tryz.sizeOf3
  v3 := Tryz.zeroValue3
  t9 := Tryz.underlying9
  a9 := Tryz.isAgg9
  z9 := Tryz.sizeOf9
  v9 := Tryz.zeroValue9
  t37 := Tryz.underlying84
  a37 := Tryz.isAgg84
  z37 := Tryz.sizeOf84
  v37 := Tryz.zeroValue84
  t70 := Tryz.underlying83
  a70 := Tryz.isAgg83
  z70 := Tryz.sizeOf83
  v70 := Tryz.zeroValue83
  t72 := Tryz.underlying86
  a72 := Tryz.isAgg86
  z72 := Tryz.sizeOf86
  v72 := Tryz.zeroValue86
  t127 := Tryz.underlying110
  a127 := Tryz.isAgg110
  z127 := Tryz.sizeOf110
  v127 := Tryz.zeroValue110 }
end Go.Proofs
end

section
/- The layings, under the name that other texts import. -/
end

section
/- The data machine, second make, part Y: slices.SortFunc at structs, by the shelf's contract, as a contract on own rows. -/


set_option linter.unusedSimpArgs false
set_option linter.unusedVariables false
namespace Go.Dm
open Go.Shelf Go.Sort Go.Proofs

theorem upd_grow {w w' : World} (h : Upd [] w w') : ∃ q os, w' = grow (w.drewN q) os := by
  refine ⟨w'.drawn - w.drawn, w'.heap.extract w.heap.size w'.heap.size, ?_⟩
  obtain ⟨heap, tape, drawn, os, output⟩ := w'
  obtain ⟨h1, h2, h3, h4, h5, h6⟩ := h
  simp only at h1 h2 h3 h4 h5 h6 ⊢
  subst h1; subst h2; subst h3
  have e1 : w.heap ++ heap.extract w.heap.size heap.size = heap := by
    apply Array.ext_getElem?
    intro i
    by_cases hi : i < w.heap.size
    · rw [Array.getElem?_append_left hi, ← h6 i hi (by simp)]
    · rw [Array.getElem?_append_right (by omega), Array.getElem?_extract]
      by_cases hi2 : i < heap.size
      · rw [if_pos (by omega)]
        congr 1
        omega
      · rw [if_neg (by omega), Array.getElem?_eq_none (by omega)]
  have e2 : w.drawn + (drawn - w.drawn) = drawn := by omega
  simp [grow, World.drewN, e1, e2]

section
variable {P : Program} {ρ : Ren} {g : FuncId} {et k cap b : Nat} {cs : List DVal} {cs' : Array Value} {cf : List DVal → List DVal → Int} {es es' : List (List DVal)} {cu0 : Cur} {M1 : List Nat} {w : World} {arr : Array Value}

theorem sortWorld_at {α : Type} [Inhabited α] (enc : α → List Value) (p3 : w.heap[b]? = some (.cells arr et (0, 0))) (m : Nat) (os : Array Obj) (dk : Array α) :
    (sortWorldK enc k w b 0 m dk os).heap[b]? = some (.cells (putCells id 0 (flatK enc k dk) arr) et (0, 0)) ∧ (∀ q, q < w.heap.size → q ≠ b → (sortWorldK enc k w b 0 m dk os).heap[q]? = w.heap[q]?) ∧ w.heap.size ≤ (sortWorldK enc k w b 0 m dk os).heap.size ∧
        (sortWorldK enc k w b 0 m dk os).os = w.os ∧ (sortWorldK enc k w b 0 m dk os).tape = w.tape ∧ (sortWorldK enc k w b 0 m dk os).output = w.output ∧ w.drawn ≤ (sortWorldK enc k w b 0 m dk os).drawn := by
  have hblk : b < w.heap.size := (Array.getElem?_eq_some_iff.1 p3).1
  refine ⟨?_, fun q hq hqb => ?_, ?_, rfl, rfl, rfl, Nat.le_add_right _ _⟩
  · simp only [sortWorldK, grow, putRowK, putRow, mapBlock, ahead]
    rw [Array.getElem?_append_left (by simpa using hblk), Array.getElem?_modify]
    simp [p3, onCells]
  · simp only [sortWorldK, grow, putRowK, putRow, mapBlock, ahead]
    rw [Array.getElem?_append_left (by simpa using hq), Array.getElem?_modify]
    rw [if_neg (fun h => hqb h.symm)]
    rfl
  · simp [sortWorldK, grow, putRowK, putRow, mapBlock, ahead]

/-- the cells of the row that is sorted -/
theorem putCells_at {α : Type} [Inhabited α] {enc : α → List Value} (hlen : ∀ x, (enc x).length = k) {dk : Array α} {i p : Nat} (hi : i < dk.size) (hp : p < k) (hsz : dk.size * k ≤ arr.size) :
    (putCells id 0 (flatK enc k dk) arr)[i * k + p]? = (enc dk[i]!)[p]? := by
  have hrow := mul_lt_row (k := k) hi
  have hlt : i * k + p < arr.size := by omega
  have hdiv : (i * k + p) / k = i := by
    rw [Nat.mul_comm, Nat.mul_add_div (by omega), Nat.div_eq_of_lt hp]; omega
  have hmod : (i * k + p) % k = p := by rw [Nat.mul_comm, Nat.mul_add_mod]; exact Nat.mod_eq_of_lt hp
  have hlf : i * k + p < dk.size * k := by omega
  have hpe : p < (enc dk[i]!).length := by rw [hlen]; exact hp
  simp only [putCells, Nat.zero_add, Array.getElem?_mapIdx, Array.getElem?_eq_getElem hlt, Option.map_some, Nat.zero_le, true_and, size_flatK, hlf, if_true, Nat.sub_zero, id]
  rw [get_flatK _ _ _ _ hlf, hdiv, hmod, getElem!_pos (enc dk[i]!) p hpe, List.getElem?_eq_getElem hpe]

theorem sort_core {α : Type} [Inhabited α] (L : SlLaysF0.n6 P ρ) (dt : α → List DVal) (enc : α → List Value) (d : Array α) (hag : tAgg P (ρ.t 24) = some true) (hcl : tCells P (ρ.t 24) = some k) (hcs : mxL cs = 0) (hes : ∀ x ∈ es, mxL x = 0)
    (hdt : ∀ x, dt x ∈ es) (hdk : ∀ x, (dt x).length = k) (hrd : ∀ x, rdV cu0 M1 w.heap (dt x) (enc x)) (hone : ∀ x, ∀ u ∈ enc x, u.oneCell' = true) (hdsz : d.size = es.length)
    (hd : ∀ i (hi : i < es.length), dt d[i]! = es[i] ∧ ∀ (q : Nat) (v : Value), (enc d[i]!)[q]? = some v → arr[i * k + q]? = some v)
    (p3 : w.heap[b]? = some (.cells arr et (0, 0))) (hcap : es.length * k ≤ arr.size) (hbM : b ∈ M1) (hMlt : ∀ q ∈ M1, q < w.heap.size) (hcsr : rdV cu0 M1 w.heap cs cs'.toList) (hlt : es.length < 4611686018427387904)
    (hg : Enters P g) (hcmp : ∀ x ∈ es, ∀ y ∈ es, DPure P g (.agg x :: .agg y :: cs) (.int .i64 (cf x y)))
    (hirr : ∀ x ∈ es, ¬ cf x x < 0) (htr : ∀ x ∈ es, ∀ y ∈ es, ∀ z ∈ es, cf x y < 0 → cf y z < 0 → cf x z < 0) (hnt : ∀ x ∈ es, ∀ y ∈ es, ∀ z ∈ es, ¬ cf x y < 0 → ¬ cf y z < 0 → ¬ cf x z < 0)
    (huniq : ∀ l : List (List DVal), l.Perm es → l.Pairwise (fun x y => ¬ cf y x < 0) → l = es') :
    Calls P (ρ.f 6) #[.slice (some ⟨b, 0, none⟩) es.length cap, .func (.func g) #[] cs'] w fun e w' => e = .returned (.tuple #[]) ∧ es'.length = es.length ∧ Upd [b] w w' ∧
      ∃ arr', w'.heap[b]? = some (.cells arr' et (0, 0)) ∧ arr'.size = arr.size ∧ ∀ cur M2, (∀ q ∈ M2, q ∈ M1) → rdR cur M2 w'.heap k es' arr' 0 := by
  have hlen : ∀ x : α, (enc x).length = k := fun x => by
    have := rdV_length _ _ (hrd x)
    have := hdk x
    omega
  have hO : SWO (ltOf fun x y : α => cf (dt x) (dt y)) := by
    refine ⟨fun x => ?_, fun x y z h1 h2 => ?_, fun x y z h1 h2 => ?_⟩
    · simp only [ltOf, decide_eq_false_iff_not]; exact hirr _ (hdt x)
    · simp only [ltOf, decide_eq_true_eq] at *; exact htr _ (hdt x) _ (hdt y) _ (hdt z) h1 h2
    · simp only [ltOf, decide_eq_false_iff_not] at *; exact hnt _ (hdt x) _ (hdt y) _ (hdt z) h1 h2
  have hH : HoldsK enc k w b 0 d := by
    intro j hj
    rw [size_flatK, hdsz] at hj
    have hk0 : 0 < k := by
      rcases Nat.eq_zero_or_pos k with h | h
      · subst h; simp at hj
      · exact h
    have hi : j / k < es.length := by rw [Nat.div_lt_iff_lt_mul hk0]; exact hj
    have hq : j % k < k := Nat.mod_lt _ hk0
    rw [get_flatK _ _ _ _ (by rw [hdsz]; exact hj)]
    have hq' : j % k < (enc d[j / k]!).length := by rw [hlen]; exact hq
    have hcell := (hd _ hi).2 (j % k) _ (List.getElem?_eq_getElem hq')
    rw [Nat.mul_comm, Nat.div_add_mod] at hcell
    rw [getElem!_pos (enc d[j / k]!) _ hq']
    exact ⟨by simp only [World.cell?, p3, Nat.zero_add, id]; exact hcell, by simp [World.frozen?, p3]⟩
  have hblk : b < w.heap.size := (Array.getElem?_eq_some_iff.1 p3).1
  have Wk : ∀ m os (dk : Array α) (cur : Cur) (M2 : List Nat), (∀ q ∈ M2, q ∈ M1) → Weak cu0 cur M1 M2 w.heap (sortWorldK enc k w b 0 m dk os).heap 0 := by
    intro m os dk cur M2 hM2
    have hW := sortWorld_at (et := et) (arr := arr) (k := k) enc p3 m os dk
    exact ⟨fun _ _ _ h => by omega, fun q o hq (_ : isD o = true) ho => by rw [hW.2.1 q (Array.getElem?_eq_some_iff.1 ho).1 (fun h => hq (h ▸ hbM))]; exact ho, fun q o hq (_ : isD o = true) _ hm => hq (hM2 q hm)⟩
  have hC : CmpLays P g cs' enc k (fun x y : α => cf (dt x) (dt y)) b 0 d.size w := by
    intro m os dk _ x y
    have hD := hcmp _ (hdt x) _ (hdt y)
    have hW := sortWorld_at (et := et) (arr := arr) (k := k) enc p3 m os dk
    have hx := rdV_weak (Wk m os dk (fun _ _ => none) M1 (fun _ h => h)) _ _ (Nat.le_of_eq (hes _ (hdt x))) (hrd x)
    have hy := rdV_weak (Wk m os dk (fun _ _ => none) M1 (fun _ h => h)) _ _ (Nat.le_of_eq (hes _ (hdt y))) (hrd y)
    have hc := rdV_weak (Wk m os dk (fun _ _ => none) M1 (fun _ h => h)) _ _ (Nat.le_of_eq hcs) hcsr
    obtain ⟨X, hX⟩ : ∃ X, X = (enc x).toArray := ⟨_, rfl⟩
    obtain ⟨Y, hY⟩ : ∃ Y, Y = (enc y).toArray := ⟨_, rfl⟩
    simp only [← hX, ← hY]
    generalize sortWorldK enc k w b 0 m dk os = V at hW hx hy hc ⊢
    have key := hD.2.2 (fun _ _ => none) M1 V (#[.agg X, .agg Y] ++ cs') (fun q hq => Nat.lt_of_lt_of_le (hMlt q hq) hW.2.2.1)
    refine (key ?_).mono ?_
    · have e1 : (#[Value.agg X, Value.agg Y] ++ cs').toList = Value.agg X :: Value.agg Y :: cs'.toList := by simp
      rw [e1]
      simp only [rdV]
      refine ⟨_, _, rfl, ?_, _, _, rfl, ?_, hc⟩
      · simp only [rd]; exact ⟨_, rfl, by rw [hX]; exact hx⟩
      · simp only [rd]; exact ⟨_, rfl, by rw [hY]; exact hy⟩
    · rintro e w' ⟨v, rfl, hu, hv⟩
      simp only [rd] at hv
      exact ⟨by rw [hv.1], upd_grow hu⟩
  have hrun := AnyQ.slices_SortFunc L k (run_isAgg hag) (run_sizeOf' hcl) enc hlen hone (fun x y : α => cf (dt x) (dt y)) hO g cs' b 0 cap d w hg hC hH hblk (by omega)
  rw [hdsz] at hrun
  refine hrun.mono ?_
  rintro e w' ⟨rfl, d', n, os, hP, hS, rfl⟩
  obtain ⟨hsz', _, hperm⟩ := hP
  rw [hdsz] at hsz'
  have e1 : d'.extract 0 es.length = d' := by rw [← hsz']; exact Array.extract_size
  have e2 : d.extract 0 es.length = d := by rw [← hdsz]; exact Array.extract_size
  rw [e1, e2] at hperm
  have hdes : d.toList.map dt = es := by
    apply List.ext_getElem
    · simp [hdsz]
    · intro i h1 h2
      have := (hd i h2).1
      rw [getElem!_pos d i (by omega)] at this
      simpa using this
  have hdata : d'.toList.map dt = es' := by
    refine huniq _ ?_ ?_
    · have := hperm.map dt
      rwa [hdes] at this
    · rw [List.pairwise_map, List.pairwise_iff_getElem]
      intro i j hi hj hij
      have hi' : i < d'.size := by simpa using hi
      have hj' : j < d'.size := by simpa using hj
      have := hS i j (Nat.zero_le _) hij (by omega)
      rw [getElem!_pos d' j hj', getElem!_pos d' i hi'] at this
      simpa [ltOf] using this
  have hlen' : es'.length = es.length := by rw [← hdata]; simp [hsz']
  obtain ⟨q1, q2, q3, q4, q5, q6, q7⟩ := sortWorld_at (et := et) (arr := arr) (k := k) enc p3 n os d'
  refine ⟨rfl, hlen', ⟨q4, q5, q6, q7, q3, fun q hq hn => q2 q hq (fun h => hn (by simp [h]))⟩, _, q1, by simp [putCells], fun cur M2 hM2 => ?_⟩
  refine rdR_mk _ _ _ _ fun i cs0 hi => ?_
  have hil : i < es'.length := (List.getElem?_eq_some_iff.1 hi).1
  have hid : i < d'.size := by omega
  have hcs0 : cs0 = dt d'[i]! := by
    rw [← hdata, List.getElem?_map] at hi
    rw [getElem!_pos d' i hid]
    simp [hid] at hi
    exact hi.symm
  subst hcs0
  refine ⟨hdk _, ?_⟩
  have hv := rdV_weak (Wk n os d' cur M2 hM2) _ _ (Nat.le_of_eq (hes _ (hdt _))) (hrd d'[i]!)
  have h0 := rdC_of _ _ [] [] hv (hone _)
  refine rdC_same _ _ _ _ _ (fun p hp => ?_) h0
  have hp' : p < k := by rw [hdk] at hp; exact hp
  rw [Nat.zero_add, putCells_at hlen hid hp' (by rw [hsz']; exact hcap)]
  simp
end

/-- SORTED BY A COMPARISON: what an own row holds behind is the one sorted list of its elements. -/
theorem sort_spec {P : Program} {ρ : Ren} (L : SlLaysF0.n6 P ρ) {f g : FuncId} {et k bs : Nat} {cs : List DVal} {cf : List DVal → List DVal → Int} {es es' : List (List DVal)} (hf : ρ.f 6 = f) (hen : Enters P f) (hag : tAgg P (ρ.t 24) = some true) (hcl : tCells P (ρ.t 24) = some k)
    (hbs0 : 0 < bs) (hcs : mxL cs = 0) (hes : ∀ x ∈ es, mxL x = 0) (hg : Enters P g) (hcmp : ∀ x ∈ es, ∀ y ∈ es, DPure P g (.agg x :: .agg y :: cs) (.int .i64 (cf x y)))
    (hirr : ∀ x ∈ es, ¬ cf x x < 0) (htr : ∀ x ∈ es, ∀ y ∈ es, ∀ z ∈ es, cf x y < 0 → cf y z < 0 → cf x z < 0) (hnt : ∀ x ∈ es, ∀ y ∈ es, ∀ z ∈ es, ¬ cf x y < 0 → ¬ cf y z < 0 → ¬ cf x z < 0)
    (huniq : ∀ l : List (List DVal), l.Perm es → l.Pairwise (fun x y => ¬ cf y x < 0) → l = es') :
    DSpec P (.func f) [.osl 0 0, .fn (.func g) [] cs] [⟨0, 0, .row et k bs es⟩] (.tup []) [⟨0, 0, .row et k bs es'⟩] := by
  refine ⟨by simp, hen, fun M w loc vs S hr => ?_⟩
  refine ⟨hen, ?_⟩
  simp only [rdV] at hr
  obtain ⟨v0, r0, hvs, h0, v1, r1, rfl, h1, rfl⟩ := hr
  simp only [rd] at h0 h1
  obtain ⟨us', cs', rfl, hus, hcsr⟩ := h1
  simp only [rdV] at hus
  have hus' : us' = #[] := by cases us'; simpa using hus
  subst hus'
  have hcur0 : curOf [(⟨0, 0, .row et k bs es⟩ : Ent)] loc 0 0 = some (loc 0) := rfl
  have hv0 := h0 _ hcur0
  have hvs' : vs = #[v0, .func (.func g) #[] cs'] := by cases vs; simpa using hvs
  subst hvs'
  subst hf
  have hhot : hotOf [(⟨0, 0, .row et k bs es⟩ : Ent)] loc = (loc 0).blks := by simp [hotOf]
  have hhot' : hotOf [(⟨0, 0, .row et k bs es'⟩ : Ent)] loc = (loc 0).blks := by simp [hotOf]
  have htup : ∀ cur M h, rd cur M h (.tup []) (.tuple #[]) := fun _ _ _ => by simp only [rd]; exact ⟨#[], rfl, by simp [rdV]⟩
  have hk := S.ok ⟨0, 0, .row et k bs es⟩ (by simp)
  by_cases hne : es = []
  · subst hne
    have hes' : es' = [] := (huniq [] (List.Perm.refl _) List.Pairwise.nil).symm
    subst hes'
    obtain ⟨a, cap, hh⟩ : ∃ a cap, (loc 0).hdr = .slice a 0 cap := by
      obtain ⟨_, ⟨_, _, h2⟩ | ⟨b, arr, cap, _, h2, _⟩⟩ := hk
      · exact ⟨_, _, h2⟩
      · exact ⟨_, _, h2⟩
    rw [hh] at hv0
    subst hv0
    refine (AnyF.slices_SortFunc_none { L with } a cap (.func (.func g) #[] cs') w).mono ?_
    rintro e w' ⟨rfl, rfl⟩
    exact ⟨_, rfl, loc, S, Upd.refl _ _, fun b hb => .inl hb, fun e he _ => curOf_self S.nd he, htup _ _ _⟩
  · obtain ⟨b, arr, cap, p1, p2, p3, p4, p5, p6, p7⟩ : ∃ b arr cap, (loc 0).blks = [b] ∧ (loc 0).hdr = .slice (some ⟨b, 0, none⟩) es.length cap ∧ w.heap[b]? = some (.cells arr et (0, 0)) ∧ es.length ≤ cap ∧ cap ≤ maxLen ∧ cap * k = arr.size ∧ rdR (curOf [(⟨0, 0, .row et k bs es⟩ : Ent)] loc) (hotOf [(⟨0, 0, .row et k bs es⟩ : Ent)] loc ++ M) w.heap k es arr 0 := by
      obtain ⟨_, ⟨h, _⟩ | h⟩ := hk
      · exact absurd h hne
      · exact h
    have hbs := hk.1
    rw [p2] at hv0
    subst hv0
    obtain ⟨cu0, hcu0⟩ : ∃ c, c = curOf [(⟨0, 0, .row et k bs es⟩ : Ent)] loc := ⟨_, rfl⟩
    obtain ⟨M1, hM1⟩ : ∃ m, m = hotOf [(⟨0, 0, .row et k bs es⟩ : Ent)] loc ++ M := ⟨_, rfl⟩
    rw [← hcu0, ← hM1] at p7 hcsr
    have hbM : b ∈ M1 := by rw [hM1, hhot, p1]; simp
    have hMlt : ∀ q ∈ M1, q < w.heap.size := by rw [hM1]; exact S.lt
    have hcap : es.length * k ≤ arr.size := by rw [← p6]; exact Nat.mul_le_mul_right _ p4
    have hpos : 0 < es.length := List.length_pos_iff.2 hne
    have hel : ∀ i : Fin es.length, ∃ us : List Value, rdV cu0 M1 w.heap es[i.1] us ∧ (∀ u ∈ us, u.oneCell' = true) ∧ ∀ (q : Nat) (v : Value), us[q]? = some v → arr[i.1 * k + q]? = some v := by
      intro i
      obtain ⟨q1, q2⟩ := rdR_at k es arr 0 i.1 es[i.1] p7 (List.getElem?_eq_getElem i.2)
      obtain ⟨us, g1, g2, g3⟩ := rdC_vals _ _ _ q2
      refine ⟨us, g2, fun u hu => ?_, fun q v hq => ?_⟩
      · obtain ⟨j, hj, rfl⟩ := List.getElem_of_mem hu
        exact (g3 j _ (List.getElem?_eq_getElem hj)).2
      · have := (g3 q v hq).1
        simpa using this
    haveI : Inhabited (Fin es.length) := ⟨⟨0, hpos⟩⟩
    have hlt : es.length < 4611686018427387904 := by
      have h1 : es.length * 1 ≤ es.length * bs := Nat.mul_le_mul_left _ hbs0
      have h2 : es.length * bs ≤ 150000000000000 := hbs
      omega
    have hd : ∀ i (hi : i < es.length), (Array.ofFn (fun i : Fin es.length => i))[i]! = ⟨i, hi⟩ := by
      intro i hi
      rw [getElem!_pos _ i (by simpa using hi)]
      simp
    refine (sort_core (et := et) (α := Fin es.length) L (fun i => es[i.1]) (fun i => (hel i).choose) (Array.ofFn fun i => i) hag hcl hcs hes (fun i => List.getElem_mem _) (fun i => (rdR_at k es arr 0 i.1 es[i.1] p7 (List.getElem?_eq_getElem i.2)).1) (fun i => (hel i).choose_spec.1) (fun i => (hel i).choose_spec.2.1) (by simp)
      (fun i hi => by rw [hd i hi]; exact ⟨rfl, (hel ⟨i, hi⟩).choose_spec.2.2⟩) p3 hcap hbM hMlt hcsr hlt hg hcmp hirr htr hnt huniq).mono ?_
    rintro e w' ⟨rfl, hlen', hu, arr', r1, r2, r3⟩
    have hM2 : hotOf [(⟨0, 0, .row et k bs es'⟩ : Ent)] loc ++ M = M1 := by rw [hM1, hhot, hhot']
    refine ⟨_, rfl, loc, ⟨by simp, by rw [hhot', p1]; simp, fun q hq => S.ap q (by rw [hhot]; rwa [hhot'] at hq), fun q hq => ?_, ?_⟩, by rw [hhot, p1]; exact hu, fun q hq => .inl (by rw [hhot]; rwa [hhot'] at hq), ?_, htup _ _ _⟩
    · rw [hM2] at hq; exact Nat.lt_of_lt_of_le (hMlt q hq) hu.size
    · intro e he
      simp only [List.mem_singleton] at he
      subst he
      rw [hM2]
      exact ⟨by rw [hlen']; exact hbs, .inr ⟨b, arr', cap, p1, by rw [hlen']; exact p2, r1, by omega, p5, by omega, r3 _ _ fun _ h => h⟩⟩
    · intro e he _
      simp only [List.mem_singleton] at he
      subst he
      exact hcur0
end Go.Dm
end

section
/- The data machine, second make, part St: slices.Sort at texts, strings.Compare, by the shelf's contracts. -/





set_option linter.unusedSimpArgs false
set_option linter.unusedVariables false
namespace Go.Dm
open Go.Shelf Go.Sort Go.Proofs Go.RowKit

/-- texts in order -/
def ssort (l : List ByteArray) : List ByteArray := ((l.map fun s => s.data.toList).mergeSort fun x y => decide (x ≤ y)).map fun x => ⟨x.toArray⟩
theorem ssort_len (l : List ByteArray) : (ssort l).length = l.length := by simp [ssort]

theorem putRow_at {α : Type} [Inhabited α] (enc : α → Value) {w : World} {b et : Nat} {arr : Array Value} (p3 : w.heap[b]? = some (.cells arr et (0, 0))) (m : Nat) (os : Array Obj) (dk : Array α) :
    (grow (putRow enc (Sort.ahead w m) b 0 dk) os).heap[b]? = some (.cells (putCells enc 0 dk arr) et (0, 0)) ∧ (∀ q, q < w.heap.size → q ≠ b → (grow (putRow enc (Sort.ahead w m) b 0 dk) os).heap[q]? = w.heap[q]?) ∧ w.heap.size ≤ (grow (putRow enc (Sort.ahead w m) b 0 dk) os).heap.size ∧
        (grow (putRow enc (Sort.ahead w m) b 0 dk) os).os = w.os ∧ (grow (putRow enc (Sort.ahead w m) b 0 dk) os).tape = w.tape ∧ (grow (putRow enc (Sort.ahead w m) b 0 dk) os).output = w.output ∧ w.drawn ≤ (grow (putRow enc (Sort.ahead w m) b 0 dk) os).drawn := by
  have hblk : b < w.heap.size := (Array.getElem?_eq_some_iff.1 p3).1
  refine ⟨?_, fun q hq hqb => ?_, ?_, rfl, rfl, rfl, Nat.le_add_right _ _⟩
  · simp only [grow, putRow, mapBlock, Sort.ahead]
    rw [Array.getElem?_append_left (by simpa using hblk), Array.getElem?_modify]
    simp [p3, onCells]
  · simp only [grow, putRow, mapBlock, Sort.ahead]
    rw [Array.getElem?_append_left (by simpa using hq), Array.getElem?_modify]
    rw [if_neg (fun h => hqb h.symm)]
  · simp [grow, putRow, mapBlock, Sort.ahead]

def dText (s : ByteArray) : List DVal := [.str s]
theorem sortStr_spec {P : Program} {ρ : Ren} (L : SlLaysM.n6 P ρ) {f : FuncId} {et bs : Nat} (hf : ρ.f 6 = f) (hen : Enters P f) (hbs0 : 0 < bs) (l : List ByteArray) :
    DSpec P (.func f) [.osl 0 0] [⟨0, 0, .row et 1 bs (l.map dText)⟩] (.tup []) [⟨0, 0, .row et 1 bs ((ssort l).map dText)⟩] := by
  refine ⟨by simp, hen, fun M w loc vs S hr => ?_⟩
  refine ⟨hen, ?_⟩
  simp only [rdV] at hr
  obtain ⟨v0, r0, hvs, h0, rfl⟩ := hr
  simp only [rd] at h0
  have hcur0 : ∀ l : List ByteArray, curOf [(⟨0, 0, .row et 1 bs (l.map dText)⟩ : Ent)] loc 0 0 = some (loc 0) := fun _ => rfl
  have hv0 := h0 _ (hcur0 l)
  have hvs' : vs = #[v0] := by cases vs; simpa using hvs
  subst hvs'
  subst hf
  have hhot : ∀ l : List ByteArray, hotOf [(⟨0, 0, .row et 1 bs (l.map dText)⟩ : Ent)] loc = (loc 0).blks := fun _ => by simp [hotOf]
  have htup : ∀ cur M h, rd cur M h (.tup []) (.tuple #[]) := fun _ _ _ => by simp only [rd]; exact ⟨#[], rfl, by simp [rdV]⟩
  have hk := S.ok ⟨0, 0, .row et 1 bs (l.map dText)⟩ (by simp)
  by_cases hne : l = []
  · subst hne
    obtain ⟨a, cap, hh⟩ : ∃ a cap, (loc 0).hdr = .slice a 0 cap := by
      obtain ⟨_, ⟨_, _, h2⟩ | ⟨b, arr, cap, _, h2, _⟩⟩ := hk
      · exact ⟨_, _, h2⟩
      · exact ⟨_, _, h2⟩
    rw [hh] at hv0
    subst hv0
    refine (AnyM.slices_Sort_string_none L a cap w).mono ?_
    rintro e w' ⟨rfl, rfl⟩
    have e0 : ssort [] = [] := by simp [ssort]
    rw [e0]
    exact ⟨_, rfl, loc, S, Upd.refl _ _, fun b hb => .inl hb, fun e he _ => curOf_self S.nd he, htup _ _ _⟩
  · obtain ⟨b, arr, cap, p1, p2, p3, p4, p5, p6, p7⟩ : ∃ b arr cap, (loc 0).blks = [b] ∧ (loc 0).hdr = .slice (some ⟨b, 0, none⟩) (l.map dText).length cap ∧ w.heap[b]? = some (.cells arr et (0, 0)) ∧ (l.map dText).length ≤ cap ∧ cap ≤ maxLen ∧ cap * 1 = arr.size ∧ rdR (curOf [(⟨0, 0, .row et 1 bs (l.map dText)⟩ : Ent)] loc) (hotOf [(⟨0, 0, .row et 1 bs (l.map dText)⟩ : Ent)] loc ++ M) w.heap 1 (l.map dText) arr 0 := by
      obtain ⟨_, ⟨h, _⟩ | h⟩ := hk
      · exact absurd (List.map_eq_nil_iff.1 h) hne
      · exact h
    have hbs : (l.map dText).length * bs ≤ 150000000000000 := hk.1
    rw [p2] at hv0
    subst hv0
    rw [List.length_map] at p2 p4 hbs
    have hmax : ∀ s ∈ l, s.size ≤ maxLen ∧ True := by
      intro s hs
      obtain ⟨i, hi, rfl⟩ := List.getElem_of_mem hs
      obtain ⟨q1, q2⟩ := rdR_at 1 _ arr 0 i [.str l[i]] p7 (by simp [dText, hi])
      obtain ⟨us, g1, g2, g3⟩ := rdC_vals _ _ _ q2
      simp only [rdV, rd] at g2
      obtain ⟨v, _, _, ⟨_, h⟩, _⟩ := g2
      exact ⟨h, trivial⟩
    have hcell : ∀ i (hi : i < l.length), arr[i]? = some (.string l[i]) := by
      intro i hi
      obtain ⟨q1, q2⟩ := rdR_at 1 _ arr 0 i [.str l[i]] p7 (by simp [dText, hi])
      obtain ⟨us, g1, g2, g3⟩ := rdC_vals _ _ _ q2
      simp only [rdV, rd] at g2
      obtain ⟨v, r, rfl, ⟨rfl, _⟩, _⟩ := g2
      have := (g3 0 _ rfl).1
      simpa using this
    obtain ⟨ss, hss⟩ : ∃ ss, ss = l.map fun s => s.data.toList := ⟨_, rfl⟩
    have hssl : ss.length = l.length := by rw [hss, List.length_map]
    have hH : Holds encStr w b 0 ss.toArray := by
      intro j hj
      simp only [List.size_toArray, hssl] at hj
      refine ⟨?_, Lib.frozen_of_heap p3 _⟩
      rw [Nat.zero_add, Lib.cell_of_heap p3, hcell j hj]
      rw [getElem!_pos _ j (by simpa [hssl] using hj)]
      simp [hss, encStr]
    have hlt : ss.length < 4611686018427387904 := by
      rw [hssl]
      have h1 : l.length * 1 ≤ l.length * bs := Nat.mul_le_mul_left _ hbs0
      omega
    have hbl : b < w.heap.size := (Array.getElem?_eq_some_iff.1 p3).1
    have key := AnyM.slices_Sort_string L b 0 cap ss w hH hbl hlt
    rw [hssl] at key
    simp only [List.length_map]
    refine key.mono ?_
    rintro e w' ⟨rfl, n, os, rfl⟩
    obtain ⟨q1, q2, q3, q4, q5, q6, q7⟩ := putRow_at encStr (et := et) (arr := arr) p3 n os (ss.mergeSort fun x y => decide (x ≤ y)).toArray
    have hse : ssort l = (ss.mergeSort fun x y => decide (x ≤ y)).map fun x => ⟨x.toArray⟩ := by rw [hss]; rfl
    have hml : (ss.mergeSort fun x y => decide (x ≤ y)).length = l.length := by simp [hssl]
    refine ⟨_, rfl, loc, ⟨by simp, by rw [hhot, p1]; simp, fun q hq => S.ap q (by rw [hhot]; rwa [hhot] at hq), fun q hq => ?_, ?_⟩, ?_, fun q hq => .inl (by rw [hhot]; rwa [hhot] at hq), ?_, htup _ _ _⟩
    · refine Nat.lt_of_lt_of_le (S.lt q ?_) q3
      rw [hhot] at hq ⊢; exact hq
    · intro e he
      simp only [List.mem_singleton] at he
      subst he
      refine ⟨by simpa [ssort_len] using hbs, .inr ⟨b, _, cap, p1, by simpa [ssort_len] using p2, q1, by simpa [ssort_len] using p4, p5, by simpa [putCells] using p6, ?_⟩⟩
      refine rdR_mk _ _ _ _ fun i cs0 hi => ?_
      have hil : i < l.length := by
        have := (List.getElem?_eq_some_iff.1 hi).1
        simpa [ssort_len] using this
      rw [hse] at hi
      have him : i < (ss.mergeSort fun x y => decide (x ≤ y)).length := by omega
      simp only [List.map_map, List.getElem?_map, List.getElem?_eq_getElem him, Option.map_some, Function.comp_apply, Option.some.injEq] at hi
      subst hi
      refine ⟨rfl, ?_⟩
      have hmem : (ss.mergeSort fun x y => decide (x ≤ y))[i] ∈ ss := (List.mergeSort_perm ss _).mem_iff.1 (List.getElem_mem him)
      have hsz : (⟨((ss.mergeSort fun x y => decide (x ≤ y))[i]).toArray⟩ : ByteArray).size ≤ maxLen := by
        generalize (ss.mergeSort fun x y => decide (x ≤ y))[i] = y at hmem ⊢
        rw [hss] at hmem
        obtain ⟨s, hs, hse⟩ := List.mem_map.1 hmem
        have := (hmax s hs).1
        rw [← hse]
        exact this
      have h0 := rdC_of (cur := curOf [(⟨0, 0, .row et 1 bs ((ssort l).map dText)⟩ : Ent)] loc) (M := hotOf [(⟨0, 0, .row et 1 bs ((ssort l).map dText)⟩ : Ent)] loc ++ M) (H := (grow (putRow encStr (Sort.ahead w n) b 0 (ss.mergeSort fun x y => decide (x ≤ y)).toArray) os).heap) [.str ⟨((ss.mergeSort fun x y => decide (x ≤ y))[i]).toArray⟩] [.string ⟨((ss.mergeSort fun x y => decide (x ≤ y))[i]).toArray⟩] [] [] (by simp only [rdV, rd]; exact ⟨_, _, rfl, ⟨rfl, hsz⟩, rfl⟩) (by simp [Value.oneCell'])
      refine rdC_same _ _ _ _ _ (fun p hp => ?_) h0
      have hp0 : p = 0 := by simp [dText] at hp; omega
      subst hp0
      have hia : i < arr.size := by omega
      simp only [putCells, Array.getElem?_mapIdx]
      rw [show 0 + i * 1 + 0 = i by omega, Array.getElem?_eq_getElem hia]
      simp [him, encStr, hml, hil, hssl]
    · rw [hhot, p1]
      exact ⟨q4, q5, q6, q7, q3, fun q hq hn => q2 q hq (fun h => hn (by simp [h]))⟩
    · intro e he _
      simp only [List.mem_singleton] at he
      subst he
      rfl

theorem cmpBytes_range : ∀ a b : List UInt8, Lib.compareBytes a b = -1 ∨ Lib.compareBytes a b = 0 ∨ Lib.compareBytes a b = 1
  | [], [] => by simp [Lib.compareBytes]
  | [], _ :: _ => by simp [Lib.compareBytes]
  | _ :: _, [] => by simp [Lib.compareBytes]
  | a :: l, b :: r => by
    unfold Lib.compareBytes
    split
    · exact .inl rfl
    · split
      · exact .inr (.inr rfl)
      · exact cmpBytes_range l r
theorem strCmp_pure {P : Program} {ρ : Ren} (L : Lays.n106 P ρ) {f : FuncId} (hf : ρ.f 106 = f) (hen : Enters P f) (a b : ByteArray) : DPure P f [.str a, .str b] (.int .i64 (Lib.compareBytes a.data.toList b.data.toList)) := by
  refine ⟨hen, by simp [mx], fun cur M w vs _ hr => ?_⟩
  simp only [rdV, rd] at hr
  obtain ⟨v0, r0, hvs, ⟨rfl, _⟩, v1, r1, rfl, ⟨rfl, _⟩, rfl⟩ := hr
  have hvs' : vs = #[.string a, .string b] := by cases vs; simpa using hvs
  subst hvs'
  subst hf
  refine (Any.strings_Compare L a b w).mono ?_
  rintro e w' ⟨rfl, rfl⟩
  refine ⟨_, rfl, Upd.refl _ _, ?_⟩
  simp only [rd]
  refine ⟨trivial, ?_⟩
  have := cmpBytes_range a.data.toList b.data.toList
  simp only [inR]
  omega
end Go.Dm
end

section
/- strings.Builder, strings.Compare, slices.Sort at texts -/






set_option linter.unusedSimpArgs false
set_option linter.unusedVariables false
namespace Go.Proofs.YtffdjbdokgbibaaGreat
open Go Go.Dm Go.RowKit Go.Proofs
set_option maxRecDepth 100000

set_option maxHeartbeats 1000000 in
theorem copyCheck_first (b n : Nat) (w : World) (h0 : w.cell? ⟨b, 0, none⟩ = some (.pointer none)) (hsh : w.shape? b = some (86, n)) (hn : 0 < n) (hl : liesAt Tryz.prog Tryz.prog.depth 86 (n / Tryz.prog.cellsOf 86) 0 86 1 = true) (hfz : w.frozen? ⟨b, 0, none⟩ = false) :
    Calls Tryz.prog 100 #[.pointer (some ⟨b, 0, none⟩)] w fun e w' => e = .returned (.tuple #[]) ∧ w' = w.setCell ⟨b, 0, none⟩ (.pointer (some ⟨b, 0, none⟩)) := by
  obtain ⟨j, hj, hjs⟩ : ∃ j, Tryz.prog.info? 86 = some j ∧ j.size = 2 := Option.map_eq_some_iff.1 (show (Tryz.prog.info? 86).map (·.size) = some 2 by kernel_rfl)
  go_enter Tryz.func100, Tryz.ntmps100
  go_wp2
  rw [Lib.run_to_unsafe w ⟨b, 0, none⟩ Tryz.underlying83 Tryz.underlying125 hj (by rw [hjs]; decide) hsh hn]
  simp only [Result.andThen]
  rw [Oper.upon_value]
  go_wp2
  rw [run_callFunc_extern Tryz.func118 (by kernel_rfl) (by kernel_rfl) (by kernel_rfl) (e := Extern.AbiNoEscape.same) (by kernel_rfl)]
  rw [Lib.run_noEscape]
  simp only [Result.andThen]
  rw [Oper.upon_value]
  go_wp2
  rw [Lib.run_from_unsafe w ⟨b, 0, none⟩ Tryz.underlying125 Tryz.underlying83 hj hsh hl]
  simp only [Result.andThen]
  rw [Oper.upon_value]
  go_wp2
  go_end0
  exact ⟨rfl, rfl⟩
set_option maxHeartbeats 1000000 in
theorem copyCheck_used (b : Nat) (w : World) (h0 : w.cell? ⟨b, 0, none⟩ = some (.pointer (some ⟨b, 0, none⟩))) :
    Calls Tryz.prog 100 #[.pointer (some ⟨b, 0, none⟩)] w fun e w' => e = .returned (.tuple #[]) ∧ w' = w := by
  obtain ⟨j, hj, hjs⟩ : ∃ j, Tryz.prog.info? 86 = some j ∧ j.size = 2 := Option.map_eq_some_iff.1 (show (Tryz.prog.info? 86).map (·.size) = some 2 by kernel_rfl)
  go_enter Tryz.func100, Tryz.ntmps100
  go_wp2
  rw [Lib.run_neq_ptr_same w _ Tryz.underlying83 hj]
  go_wp2
  go_end0
  exact ⟨rfl, rfl⟩

/-! as contracts -/
attribute [local irreducible] DW callP callS

theorem checkFirst_spec : DSpec Tryz.prog (.func 100) [.rx 0 0 2 0 0] [⟨0, 0, .row 86 2 32 [[.nilp, .nilsl]]⟩] (.tup []) [⟨0, 0, .row 86 2 32 [[.rx 0 0 2 0 0, .nilsl]]⟩] :=
  copyCheck_spec1 (by show ¬ _; exact of_decide_eq_true (by kernel_rfl)) (by kernel_rfl) Tryz.call100 32 copyCheck_first
theorem checkUsed_spec (x : ByteArray) : DSpec Tryz.prog (.func 100) [.rx 0 0 2 0 0] [⟨0, 0, .row 86 2 32 [[.rx 0 0 2 0 0, .osl 1 0]]⟩, ⟨1, 0, .row 5 1 1 (bytesD x)⟩] (.tup [])
    [⟨0, 0, .row 86 2 32 [[.rx 0 0 2 0 0, .osl 1 0]]⟩, ⟨1, 0, .row 5 1 1 (bytesD x)⟩] :=
  copyCheck_spec2 Tryz.call100 32 (.osl 1 0) _ (by simp) copyCheck_used

def anWB078 : Ann := ⟨[7], []⟩
set_option maxHeartbeats 1000000 in
theorem writeFirst_spec (x : ByteArray) (hx : x.size ≤ 150000000000000) :
    DSpec Tryz.prog (.func 78) [.rx 0 0 2 0 0, .str x] [⟨0, 0, .row 86 2 32 [[.nilp, .nilsl]]⟩] (.tup [.int .i64 x.size, .nilifc])
      [⟨0, 0, .row 86 2 32 [[.rx 0 0 2 0 0, .osl 1 1]]⟩, ⟨1, 1, .row 5 1 1 (bytesD x)⟩] := by
  refine DSpec_intro [] [(0, 0, 0), (14, 1, 1)] (fn := Tryz.f78) Tryz.func78 rfl Tryz.call78 (by simp [Tryz.ntmps78]) (by simp) (by simp) ?_
  intro hwf B hnt
  simp only [Tryz.ntmps78] at hnt
  simp only [argS]
  (repeat (first | refine DW_seq fun K hK => ?_ | (refine DW_r anWB078 Tryz.mixed (by kernel_rfl) ?_; simp [anWB078, hnt, hx]; try simp (disch := omega) only [wrap64_in]) | refine DW_block ?_ | (refine DW_if ?_ ?_ ?_; (· (simp [hnt, hx]; done)); (try (rotate_left; (· (intro hc; (try simp [hnt, hx] at hc); done))))) | (refine DW_ret ?_; simp [Tryz.results78, hnt, hx]) | ((first | refine DW_exit ?_ | refine DW_skip ?_); simp [hnt, hx]) | (intro hc; (try simp [hnt, hx] at hc); (try (exfalso; omega))) | (refine callS_mk [(0,0)] [] (checkFirst_spec) ?_ ?_; (· (simp [hnt, hx]; done)); (intro _; try simp [hnt, hx])) | (refine ⟨?_, ?_⟩; · omega) | omega | apply_assumption -exfalso -symm | (exfalso; omega)))
def anWB078b2 : Ann := ⟨[7], []⟩
set_option maxHeartbeats 1000000 in
theorem writeUsed_spec (y x : ByteArray) (hx : y.size + x.size ≤ 150000000000000) :
    DSpec Tryz.prog (.func 78) [.rx 0 0 2 0 0, .str x] [⟨0, 0, .row 86 2 32 [[.rx 0 0 2 0 0, .osl 1 0]]⟩, ⟨1, 0, .row 5 1 1 (bytesD y)⟩] (.tup [.int .i64 x.size, .nilifc])
      [⟨0, 0, .row 86 2 32 [[.rx 0 0 2 0 0, .osl 1 1]]⟩, ⟨1, 1, .row 5 1 1 (bytesD (y ++ x))⟩] := by
  refine DSpec_intro [] [(0, 0, 0), (1, 1, 1)] (fn := Tryz.f78) Tryz.func78 rfl Tryz.call78 (by simp [Tryz.ntmps78]) (by simp) (by simp) ?_
  intro hwf B hnt
  simp only [Tryz.ntmps78] at hnt
  simp only [argS]
  rw [bytesD_app]
  (repeat (first | refine DW_seq fun K hK => ?_ | (refine DW_r anWB078b2 Tryz.mixed (by kernel_rfl) ?_; simp [anWB078b2, hnt, hx, bytesD_len]; try simp (disch := omega) only [wrap64_in]) | refine DW_block ?_ | (refine DW_if ?_ ?_ ?_; (· (simp [hnt, hx, bytesD_len]; done)); (try (rotate_left; (· (intro hc; (try simp [hnt, hx, bytesD_len] at hc); done))))) | (refine DW_ret ?_; simp [Tryz.results78, hnt, hx, bytesD_len]) | ((first | refine DW_exit ?_ | refine DW_skip ?_); simp [hnt, hx, bytesD_len]) | (intro hc; (try simp [hnt, hx, bytesD_len] at hc); (try (exfalso; omega))) | (refine callS_mk [(0,0),(1,1)] [] (checkUsed_spec y) ?_ ?_; (· (simp [hnt, hx, bytesD_len]; done)); (intro _; try simp [hnt, hx, bytesD_len])) | (refine ⟨?_, ?_⟩; · omega) | omega | apply_assumption -exfalso -symm | (exfalso; omega)))
theorem bldExtra : Builder.Extra Tryz.prog Tryz.bldString_ren where
  sizeBuilder := by kernel_rfl
  liesBuilder := by kernel_rfl
  t5 := Tryz.underlying5
  a5 := Tryz.isAgg5
  z5 := Tryz.sizeOf5
  v5 := Tryz.zeroValue5
  infoByte := by kernel_rfl
  cellsByte := by kernel_rfl
  sizeByte := by kernel_rfl
  neB5 := by decide
theorem stringNone_spec : DSpec Tryz.prog (.func 79) [.rx 0 0 2 0 0] [⟨0, 0, .row 86 2 32 [[.nilp, .nilsl]]⟩] (.str ⟨#[]⟩) [] :=
  builderString_spec1 Tryz.bldString bldExtra Tryz.call79 32
theorem stringSome_spec (x : ByteArray) (hx : x.size ≠ 0) : DSpec Tryz.prog (.func 79) [.rx 0 0 2 0 0] [⟨0, 0, .row 86 2 32 [[.rx 0 0 2 0 0, .osl 1 0]]⟩, ⟨1, 0, .row 5 1 1 (bytesD x)⟩] (.str x) [] :=
  builderString_spec2 Tryz.bldString bldExtra Tryz.call79 32 x hx
theorem sortTexts_spec (l : List ByteArray) : DSpec Tryz.prog (.func 76) [.osl 0 0] [⟨0, 0, .row 9 1 16 (l.map dStr)⟩] (.tup []) [⟨0, 0, .row 9 1 16 ((ssort l).map dStr)⟩] :=
  sortStr_spec Tryz.sortStr (by rfl) Tryz.call76 (by decide) l
theorem cmpBytes_eq : ∀ a b : List UInt8, Lib.compareBytes a b = if Op.bytesLess a b then -1 else if Op.bytesLess b a then 1 else 0
  | [], [] => by simp [Lib.compareBytes, Op.bytesLess]
  | [], _ :: _ => by simp [Lib.compareBytes, Op.bytesLess]
  | _ :: _, [] => by simp [Lib.compareBytes, Op.bytesLess]
  | x :: a, y :: b => by
    unfold Lib.compareBytes
    simp only [Op.bytesLess, Bool.or_eq_true, decide_eq_true_eq, Bool.and_eq_true, beq_iff_eq]
    by_cases h1 : x < y
    · simp [h1]
    · by_cases h2 : y < x
      · have h3 : ¬ x = y := fun h => by subst h; exact h1 h2
        simp [h1, h2, h3]
      · have h3 : x = y := UInt8.le_antisymm (UInt8.not_lt.1 h2) (UInt8.not_lt.1 h1)
        subst h3
        simp only [h1, if_false, false_or, true_and]
        exact cmpBytes_eq a b
theorem compare_pure (a b : ByteArray) : DPure Tryz.prog 45 [.str a, .str b] (.int .i64 (sCmp a b)) := by
  have := strCmp_pure Tryz.strCmp (by rfl) Tryz.call45 a b
  rw [cmpBytes_eq] at this
  exact this
end Go.Proofs.YtffdjbdokgbibaaGreat
end

section
/- small ones at texts and edges -/

set_option linter.unusedSimpArgs false
set_option linter.unusedVariables false
namespace Go.Proofs.YtffdjbdokgbibaaGreat
open Go Go.Dm
attribute [local irreducible] DW callP callS
set_option maxRecDepth 100000

def anWB237 : Ann := ⟨[], []⟩
theorem given_pure (b : Bool) (e : Int) : DPure Tryz.prog 37 [.bool b, .int .i64 e] (.int .i64 (if b then e else 0)) := by
  refine DPure_introF [] (fn := Tryz.f37) Tryz.func37 rfl Tryz.call37 (by simp [Tryz.ntmps37]) (by simp [mx]) ?_
  intro hwf B hnt
  simp only [Tryz.ntmps37] at hnt
  simp only [argS]
  cases b
  · (repeat (first | refine DW_seq fun K hK => ?_ | (refine DW_r anWB237 Tryz.mixed (by kernel_rfl) ?_; simp [anWB237, hnt]; try simp (disch := omega) only [wrap64_in]) | refine DW_block ?_ | (refine DW_if ?_ ?_ ?_; (· (simp [hnt]; done)); (try (rotate_left; (· (intro hc; (try simp [hnt] at hc); done))))) | (refine DW_ret ?_; simp [Tryz.results37, hnt]) | ((first | refine DW_exit ?_ | refine DW_skip ?_); simp [hnt]) | (intro hc; (try simp [hnt] at hc); (try (exfalso; omega))) | (refine ⟨?_, ?_⟩; · omega) | omega | apply_assumption -exfalso -symm | (exfalso; omega)))
  · (repeat (first | refine DW_seq fun K hK => ?_ | (refine DW_r anWB237 Tryz.mixed (by kernel_rfl) ?_; simp [anWB237, hnt]; try simp (disch := omega) only [wrap64_in]) | refine DW_block ?_ | (refine DW_if ?_ ?_ ?_; (· (simp [hnt]; done)); (try (rotate_left; (· (intro hc; (try simp [hnt] at hc); done))))) | (refine DW_ret ?_; simp [Tryz.results37, hnt]) | ((first | refine DW_exit ?_ | refine DW_skip ?_); simp [hnt]) | (intro hc; (try simp [hnt] at hc); (try (exfalso; omega))) | (refine ⟨?_, ?_⟩; · omega) | omega | apply_assumption -exfalso -symm | (exfalso; omega)))

/-- where a text stands -/
def placeS (l : List ByteArray) (s : ByteArray) : Int := if l.any (fun x => s == x) then ((l.findIdx fun x => s == x : Nat) : Int) else -1
theorem placeS_some {l : List ByteArray} {s : ByteArray} {k : Nat} (hk : k < l.length) (h : l[k] = s) (hno : ∀ i x, i < k → l[i]? = some x → (s == x) = false) : placeS l s = k := by
  unfold placeS
  have hb : (s == l[k]) = true := by rw [h]; exact beq_self_eq_true _
  rw [if_pos (List.any_eq_true.2 ⟨l[k], List.getElem_mem _, hb⟩)]
  congr 1
  rw [List.findIdx_eq hk]
  exact ⟨hb, fun i hi => hno i _ hi (List.getElem?_eq_getElem (by omega))⟩
theorem placeS_none {l : List ByteArray} {s : ByteArray} (hno : ∀ i x, i < l.length → l[i]? = some x → (s == x) = false) : placeS l s = -1 := by
  unfold placeS
  rw [if_neg]
  simp only [Bool.not_eq_true, List.any_eq_false]
  intro x hx
  obtain ⟨i, hi, rfl⟩ := List.getElem_of_mem hx
  rw [hno i _ hi (List.getElem?_eq_getElem hi)]
theorem hno_next {l : List ByteArray} {s x : ByteArray} {k : Nat} (hx : l[k]? = some x) (hb : (s == x) = false) (hno : ∀ i x, i < k → l[i]? = some x → (s == x) = false) : ∀ i x, i < k + 1 → l[i]? = some x → (s == x) = false := by
  intro i y hi hy
  by_cases hik : i = k
  · subst hik; rw [hx] at hy; simp only [Option.some.injEq] at hy; subst hy; exact hb
  · exact hno i y (by omega) hy
theorem len_strs {l : List ByteArray} (h : wfD (dStrs l)) : l.length < 9223372036854775807 := by
  simp only [wfD, List.length_map] at h
  omega
theorem len_eds {l : List Edge} (h : wfD (dEds l)) : l.length < 9223372036854775807 := by
  simp only [wfD, List.length_map] at h
  omega

def anWB269 : Ann := ⟨[], []⟩
theorem index139_pure (l : List ByteArray) (s : ByteArray) : DPure Tryz.prog 69 [dStrs l, .str s] (.int .i64 (placeS l s)) := by
  refine DPure_introF [] (fn := Tryz.f69) Tryz.func69 rfl Tryz.call69 (by simp [Tryz.ntmps69]) (by simp [mx]) ?_
  intro hwf B hnt
  simp only [Tryz.ntmps69] at hnt
  have hlen := len_strs hwf.1
  clear hwf
  simp only [argS]
  obtain ⟨R, hR⟩ : ∃ R, R = placeS l s := ⟨_, rfl⟩
  rw [← hR]
  (repeat (first | refine DW_seq fun K hK => ?_ | (refine DW_r anWB269 Tryz.mixed (by kernel_rfl) ?_; simp [anWB269, hnt]; try simp (disch := omega) only [wrap64_in]) | refine DW_block ?_ | (refine DW_if ?_ ?_ ?_; (· (simp [hnt]; done)); (try (rotate_left; (· (intro hc; (try simp [hnt] at hc); done))))) | (refine DW_ret ?_; simp [Tryz.results69, hnt]) | ((first | refine DW_exit ?_ | refine DW_skip ?_); simp [hnt]) | (intro hc; (try simp [hnt] at hc); (try (exfalso; omega))) | (refine ⟨?_, ?_⟩; · omega) | omega | apply_assumption -exfalso -symm | (exfalso; omega)))
  refine DW_loop (X := {k : Nat // k ≤ l.length ∧ ∀ i x, i < k → l[i]? = some x → (s == x) = false}) (fun x => ⟨[(0, dStrs l), (1, .str s), (7, .int .i64 l.length), (8, .int .i64 x.1)], []⟩) (fun x => l.length - x.1) ⟨0, by simp⟩ (Sub.lit (by simp)) ?_
  rintro ⟨k, hk, hno⟩
  by_cases hlt : k < l.length
  · obtain ⟨x, hx, hx', hxm⟩ := at_lt' hlt
    cases hb : s == x
    · (repeat (first | refine DW_seq fun K hK => ?_ | (refine DW_r anWB269 Tryz.mixed (by kernel_rfl) ?_; simp [anWB269, hnt, dStr, hlt, hx', hx, hb]; try simp (disch := omega) only [wrap64_in]) | refine DW_block ?_ | (refine DW_if ?_ ?_ ?_; (· (simp [hnt, dStr, hlt, hx', hx, hb]; done)); (try (rotate_left; (· (intro hc; (try simp [hnt, dStr, hlt, hx', hx, hb] at hc); done))))) | (refine DW_ret ?_; simp [Tryz.results69, hnt, dStr, hlt, hx', hx, hb]) | ((first | refine DW_exit ?_ | refine DW_skip ?_); simp [hnt, dStr, hlt, hx', hx, hb]) | (intro hc; (try simp [hnt, dStr, hlt, hx', hx, hb] at hc); (try (exfalso; omega))) | (refine ⟨?_, ?_⟩; · omega) | omega | apply_assumption -exfalso -symm | (exfalso; omega)))
      exact Again.mk ⟨k + 1, by omega, hno_next hx hb hno⟩ (Sub.lit (by simp [])) (by simp; omega)
      (repeat (first | refine DW_seq fun K hK => ?_ | (refine DW_r anWB269 Tryz.mixed (by kernel_rfl) ?_; simp [anWB269, hnt]; try simp (disch := omega) only [wrap64_in]) | refine DW_block ?_ | (refine DW_if ?_ ?_ ?_; (· (simp [hnt]; done)); (try (rotate_left; (· (intro hc; (try simp [hnt] at hc); done))))) | (refine DW_ret ?_; simp [Tryz.results69, hnt]) | ((first | refine DW_exit ?_ | refine DW_skip ?_); simp [hnt]) | (intro hc; (try simp [hnt] at hc); (try (exfalso; omega))) | (refine ⟨?_, ?_⟩; · omega) | omega | apply_assumption -exfalso -symm | (exfalso; omega)))
    · have hRk : R = k := by rw [hR]; exact placeS_some hlt (by rw [hx']; exact (by simpa using hb : s = x).symm) hno
      subst hRk
      (repeat (first | refine DW_seq fun K hK => ?_ | (refine DW_r anWB269 Tryz.mixed (by kernel_rfl) ?_; simp [anWB269, hnt, dStr, hlt, hx', hx, hb]; try simp (disch := omega) only [wrap64_in]) | refine DW_block ?_ | (refine DW_if ?_ ?_ ?_; (· (simp [hnt, dStr, hlt, hx', hx, hb]; done)); (try (rotate_left; (· (intro hc; (try simp [hnt, dStr, hlt, hx', hx, hb] at hc); done))))) | (refine DW_ret ?_; simp [Tryz.results69, hnt, dStr, hlt, hx', hx, hb]) | ((first | refine DW_exit ?_ | refine DW_skip ?_); simp [hnt, dStr, hlt, hx', hx, hb]) | (intro hc; (try simp [hnt, dStr, hlt, hx', hx, hb] at hc); (try (exfalso; omega))) | (refine ⟨?_, ?_⟩; · omega) | omega | apply_assumption -exfalso -symm | (exfalso; omega)))
  · have hkk : k = l.length := by omega
    subst hkk
    have hRk : R = -1 := by rw [hR]; exact placeS_none hno
    subst hRk
    (repeat (first | refine DW_seq fun K hK => ?_ | (refine DW_r anWB269 Tryz.mixed (by kernel_rfl) ?_; simp [anWB269, hnt]; try simp (disch := omega) only [wrap64_in]) | refine DW_block ?_ | (refine DW_if ?_ ?_ ?_; (· (simp [hnt]; done)); (try (rotate_left; (· (intro hc; (try simp [hnt] at hc); done))))) | (refine DW_ret ?_; simp [Tryz.results69, hnt]) | ((first | refine DW_exit ?_ | refine DW_skip ?_); simp [hnt]) | (intro hc; (try simp [hnt] at hc); (try (exfalso; omega))) | (refine ⟨?_, ?_⟩; · omega) | omega | apply_assumption -exfalso -symm | (exfalso; omega)))
def anWB255 : Ann := ⟨[], []⟩
theorem contains104_pure (l : List ByteArray) (s : ByteArray) : DPure Tryz.prog 55 [dStrs l, .str s] (.bool (decide (0 ≤ placeS l s))) := by
  refine DPure_introF [] (fn := Tryz.f55) Tryz.func55 rfl Tryz.call55 (by simp [Tryz.ntmps55]) (by simp [mx]) ?_
  intro hwf B hnt
  simp only [Tryz.ntmps55] at hnt
  simp only [argS]
  (repeat (first | refine DW_seq fun K hK => ?_ | (refine DW_r anWB255 Tryz.mixed (by kernel_rfl) ?_; simp [anWB255, hnt]; try simp (disch := omega) only [wrap64_in]) | refine DW_block ?_ | (refine DW_if ?_ ?_ ?_; (· (simp [hnt]; done)); (try (rotate_left; (· (intro hc; (try simp [hnt] at hc); done))))) | (refine DW_ret ?_; simp [Tryz.results55, hnt]) | ((first | refine DW_exit ?_ | refine DW_skip ?_); simp [hnt]) | (intro hc; (try simp [hnt] at hc); (try (exfalso; omega))) | ((first | refine callP_mk (index139_pure l s) ?_ | (refine callP_wk (index139_pure l s) ?_ ?_; (· (simp; done)))); try simp [hnt]) | (refine ⟨?_, ?_⟩; · omega) | omega | apply_assumption -exfalso -symm | (exfalso; omega)))
def endsI (g : Edges) (a b : ByteArray) : Int := if 0 ≤ placeS g.nodes a ∧ 0 ≤ placeS g.nodes b then 0 else 4
def anWB235 : Ann := ⟨[], []⟩
theorem ends63_pure (g : Edges) (a b : ByteArray) : DPure Tryz.prog 35 [.agg (dGr g), .str a, .str b] (.int .i64 (endsI g a b)) := by
  refine DPure_introF [] (fn := Tryz.f35) Tryz.func35 rfl Tryz.call35 (by simp [Tryz.ntmps35]) (by simp [mx]) ?_
  intro hwf B hnt
  simp only [Tryz.ntmps35] at hnt
  simp only [argS]
  unfold endsI
  have h1 := contains104_pure g.nodes a
  have h2 := contains104_pure g.nodes b
  have h3 := given_pure true 4
  have h4 := given_pure false 4
  simp only [if_true, Bool.false_eq_true, if_false] at h3 h4
  by_cases c1 : 0 ≤ placeS g.nodes a
  · by_cases c2 : 0 ≤ placeS g.nodes b
    · simp only [c1, c2, decide_true] at h1 h2
      (repeat (first | refine DW_seq fun K hK => ?_ | (refine DW_r anWB235 Tryz.mixed (by kernel_rfl) ?_; simp [anWB235, hnt, dGr, c1, c2]; try simp (disch := omega) only [wrap64_in]) | refine DW_block ?_ | (refine DW_if ?_ ?_ ?_; (· (simp [hnt, dGr, c1, c2]; done)); (try (rotate_left; (· (intro hc; (try simp [hnt, dGr, c1, c2] at hc); done))))) | (refine DW_ret ?_; simp [Tryz.results35, hnt, dGr, c1, c2]) | ((first | refine DW_exit ?_ | refine DW_skip ?_); simp [hnt, dGr, c1, c2]) | (intro hc; (try simp [hnt, dGr, c1, c2] at hc); (try (exfalso; omega))) | ((first | refine callP_mk (h1) ?_ | refine callP_mk (h2) ?_ | refine callP_mk (h3) ?_ | refine callP_mk (h4) ?_ | (refine callP_wk (h1) ?_ ?_; (· (simp; done))) | (refine callP_wk (h2) ?_ ?_; (· (simp; done))) | (refine callP_wk (h3) ?_ ?_; (· (simp; done))) | (refine callP_wk (h4) ?_ ?_; (· (simp; done)))); try simp [hnt, dGr, c1, c2]) | (refine ⟨?_, ?_⟩; · omega) | omega | apply_assumption -exfalso -symm | (exfalso; omega)))
    · simp only [c1, c2, decide_true, decide_false] at h1 h2
      (repeat (first | refine DW_seq fun K hK => ?_ | (refine DW_r anWB235 Tryz.mixed (by kernel_rfl) ?_; simp [anWB235, hnt, dGr, c1, c2]; try simp (disch := omega) only [wrap64_in]) | refine DW_block ?_ | (refine DW_if ?_ ?_ ?_; (· (simp [hnt, dGr, c1, c2]; done)); (try (rotate_left; (· (intro hc; (try simp [hnt, dGr, c1, c2] at hc); done))))) | (refine DW_ret ?_; simp [Tryz.results35, hnt, dGr, c1, c2]) | ((first | refine DW_exit ?_ | refine DW_skip ?_); simp [hnt, dGr, c1, c2]) | (intro hc; (try simp [hnt, dGr, c1, c2] at hc); (try (exfalso; omega))) | ((first | refine callP_mk (h1) ?_ | refine callP_mk (h2) ?_ | refine callP_mk (h3) ?_ | refine callP_mk (h4) ?_ | (refine callP_wk (h1) ?_ ?_; (· (simp; done))) | (refine callP_wk (h2) ?_ ?_; (· (simp; done))) | (refine callP_wk (h3) ?_ ?_; (· (simp; done))) | (refine callP_wk (h4) ?_ ?_; (· (simp; done)))); try simp [hnt, dGr, c1, c2]) | (refine ⟨?_, ?_⟩; · omega) | omega | apply_assumption -exfalso -symm | (exfalso; omega)))
  · simp only [c1, decide_false] at h1
    (repeat (first | refine DW_seq fun K hK => ?_ | (refine DW_r anWB235 Tryz.mixed (by kernel_rfl) ?_; simp [anWB235, hnt, dGr, c1]; try simp (disch := omega) only [wrap64_in]) | refine DW_block ?_ | (refine DW_if ?_ ?_ ?_; (· (simp [hnt, dGr, c1]; done)); (try (rotate_left; (· (intro hc; (try simp [hnt, dGr, c1] at hc); done))))) | (refine DW_ret ?_; simp [Tryz.results35, hnt, dGr, c1]) | ((first | refine DW_exit ?_ | refine DW_skip ?_); simp [hnt, dGr, c1]) | (intro hc; (try simp [hnt, dGr, c1] at hc); (try (exfalso; omega))) | ((first | refine callP_mk (h1) ?_ | refine callP_mk (h2) ?_ | refine callP_mk (h3) ?_ | refine callP_mk (h4) ?_ | (refine callP_wk (h1) ?_ ?_; (· (simp; done))) | (refine callP_wk (h2) ?_ ?_; (· (simp; done))) | (refine callP_wk (h3) ?_ ?_; (· (simp; done))) | (refine callP_wk (h4) ?_ ?_; (· (simp; done)))); try simp [hnt, dGr, c1]) | (refine ⟨?_, ?_⟩; · omega) | omega | apply_assumption -exfalso -symm | (exfalso; omega)))
end Go.Proofs.YtffdjbdokgbibaaGreat
end

section
/- orders of edges, and where an edge stands -/



set_option linter.unusedSimpArgs false
set_option linter.unusedVariables false
namespace Go.Proofs.YtffdjbdokgbibaaGreat
open Go Go.Dm
attribute [local irreducible] DW callP callS
set_option maxRecDepth 100000

def anWB347 : Ann := ⟨[], []⟩
theorem order_edge_pure (a b : Edge) : DPure Tryz.prog 47 [.agg (dEdge a), .agg (dEdge b)] (.int .i64 (eCmp a b)) := by
  refine DPure_introF [] (fn := Tryz.f47) Tryz.func47 rfl Tryz.call47 (by simp [Tryz.ntmps47]) (by simp [mx]) ?_
  intro hwf B hnt
  simp only [Tryz.ntmps47] at hnt
  simp only [argS]
  have h1 := compare_pure a.fr b.fr
  have h2 := compare_pure a.lb b.lb
  have h3 := compare_pure a.to b.to
  have h4 := or3_pure (sCmp a.fr b.fr) (sCmp a.lb b.lb) (sCmp a.to b.to)
  unfold eCmp
  (repeat (first | refine DW_seq fun K hK => ?_ | (refine DW_r anWB347 Tryz.mixed (by kernel_rfl) ?_; simp [anWB347, hnt, dEdge]; try simp (disch := omega) only [wrap64_in]) | refine DW_block ?_ | (refine DW_if ?_ ?_ ?_; (· (simp [hnt, dEdge]; done)); (try (rotate_left; (· (intro hc; (try simp [hnt, dEdge] at hc); done))))) | (refine DW_ret ?_; simp [Tryz.results47, hnt, dEdge]) | ((first | refine DW_exit ?_ | refine DW_skip ?_); simp [hnt, dEdge]) | (intro hc; (try simp [hnt, dEdge] at hc); (try (exfalso; omega))) | ((first | refine callP_mk (h1) ?_ | refine callP_mk (h2) ?_ | refine callP_mk (h3) ?_ | refine callP_mk (h4) ?_ | (refine callP_wk (h1) ?_ ?_; (· (simp; done))) | (refine callP_wk (h2) ?_ ?_; (· (simp; done))) | (refine callP_wk (h3) ?_ ?_; (· (simp; done))) | (refine callP_wk (h4) ?_ ?_; (· (simp; done)))); try simp [hnt, dEdge]) | (refine ⟨?_, ?_⟩; · omega) | omega | apply_assumption -exfalso -symm | (exfalso; omega)))
def anWB351 : Ann := ⟨[], []⟩
theorem before_pure (a b : Edge) : DPure Tryz.prog 51 [.agg (dEdge a), .agg (dEdge b)] (.bool (eLess a b)) := by
  refine DPure_introF [] (fn := Tryz.f51) Tryz.func51 rfl Tryz.call51 (by simp [Tryz.ntmps51]) (by simp [mx]) ?_
  intro hwf B hnt
  simp only [Tryz.ntmps51] at hnt
  simp only [argS]
  unfold eLess
  by_cases h1 : a.fr = b.fr
  · by_cases h2 : a.lb = b.lb
    · (repeat (first | refine DW_seq fun K hK => ?_ | (refine DW_r anWB351 Tryz.mixed (by kernel_rfl) ?_; simp [anWB351, hnt, dEdge, h1, h2, sLess]; try simp (disch := omega) only [wrap64_in]) | refine DW_block ?_ | (refine DW_if ?_ ?_ ?_; (· (simp [hnt, dEdge, h1, h2, sLess]; done)); (try (rotate_left; (· (intro hc; (try simp [hnt, dEdge, h1, h2, sLess] at hc); done))))) | (refine DW_ret ?_; simp [Tryz.results51, hnt, dEdge, h1, h2, sLess]) | ((first | refine DW_exit ?_ | refine DW_skip ?_); simp [hnt, dEdge, h1, h2, sLess]) | (intro hc; (try simp [hnt, dEdge, h1, h2, sLess] at hc); (try (exfalso; omega))) | (refine ⟨?_, ?_⟩; · omega) | omega | apply_assumption -exfalso -symm | (exfalso; omega)))
    · (repeat (first | refine DW_seq fun K hK => ?_ | (refine DW_r anWB351 Tryz.mixed (by kernel_rfl) ?_; simp [anWB351, hnt, dEdge, h1, h2, sLess]; try simp (disch := omega) only [wrap64_in]) | refine DW_block ?_ | (refine DW_if ?_ ?_ ?_; (· (simp [hnt, dEdge, h1, h2, sLess]; done)); (try (rotate_left; (· (intro hc; (try simp [hnt, dEdge, h1, h2, sLess] at hc); done))))) | (refine DW_ret ?_; simp [Tryz.results51, hnt, dEdge, h1, h2, sLess]) | ((first | refine DW_exit ?_ | refine DW_skip ?_); simp [hnt, dEdge, h1, h2, sLess]) | (intro hc; (try simp [hnt, dEdge, h1, h2, sLess] at hc); (try (exfalso; omega))) | (refine ⟨?_, ?_⟩; · omega) | omega | apply_assumption -exfalso -symm | (exfalso; omega)))
  · (repeat (first | refine DW_seq fun K hK => ?_ | (refine DW_r anWB351 Tryz.mixed (by kernel_rfl) ?_; simp [anWB351, hnt, dEdge, h1, sLess]; try simp (disch := omega) only [wrap64_in]) | refine DW_block ?_ | (refine DW_if ?_ ?_ ?_; (· (simp [hnt, dEdge, h1, sLess]; done)); (try (rotate_left; (· (intro hc; (try simp [hnt, dEdge, h1, sLess] at hc); done))))) | (refine DW_ret ?_; simp [Tryz.results51, hnt, dEdge, h1, sLess]) | ((first | refine DW_exit ?_ | refine DW_skip ?_); simp [hnt, dEdge, h1, sLess]) | (intro hc; (try simp [hnt, dEdge, h1, sLess] at hc); (try (exfalso; omega))) | (refine ⟨?_, ?_⟩; · omega) | omega | apply_assumption -exfalso -symm | (exfalso; omega)))

def eqE (a b : Edge) : Bool := decide (a = b)
def placeE (l : List Edge) (s : Edge) : Int := if l.any (fun x => eqE s x) then ((l.findIdx fun x => eqE s x : Nat) : Int) else -1
theorem placeE_some {l : List Edge} {s : Edge} {k : Nat} (hk : k < l.length) (h : l[k] = s) (hno : ∀ i x, i < k → l[i]? = some x → s ≠ x) : placeE l s = k := by
  unfold placeE
  have hb : eqE s l[k] = true := by rw [h]; simp [eqE]
  rw [if_pos (List.any_eq_true.2 ⟨l[k], List.getElem_mem _, hb⟩)]
  congr 1
  rw [List.findIdx_eq hk]
  refine ⟨hb, fun i hi => ?_⟩
  have := hno i _ hi (List.getElem?_eq_getElem (by omega))
  simpa [eqE] using this
theorem placeE_none {l : List Edge} {s : Edge} (hno : ∀ i x, i < l.length → l[i]? = some x → s ≠ x) : placeE l s = -1 := by
  unfold placeE
  rw [if_neg]
  simp only [Bool.not_eq_true, List.any_eq_false]
  intro x hx
  obtain ⟨i, hi, rfl⟩ := List.getElem_of_mem hx
  have := hno i _ hi (List.getElem?_eq_getElem hi)
  simpa [eqE] using this
def anWB370 : Ann := ⟨[], []⟩
theorem index140_pure (l : List Edge) (s : Edge) : DPure Tryz.prog 70 [dEds l, .agg (dEdge s)] (.int .i64 (placeE l s)) := by
  refine DPure_introF [] (fn := Tryz.f70) Tryz.func70 rfl Tryz.call70 (by simp [Tryz.ntmps70]) (by simp [mx]) ?_
  intro hwf B hnt
  simp only [Tryz.ntmps70] at hnt
  have hlen := len_eds hwf.1
  clear hwf
  simp only [argS]
  obtain ⟨R, hR⟩ : ∃ R, R = placeE l s := ⟨_, rfl⟩
  rw [← hR]
  (repeat (first | refine DW_seq fun K hK => ?_ | (refine DW_r anWB370 Tryz.mixed (by kernel_rfl) ?_; simp [anWB370, hnt, dEdge]; try simp (disch := omega) only [wrap64_in]) | refine DW_block ?_ | (refine DW_if ?_ ?_ ?_; (· (simp [hnt, dEdge]; done)); (try (rotate_left; (· (intro hc; (try simp [hnt, dEdge] at hc); done))))) | (refine DW_ret ?_; simp [Tryz.results70, hnt, dEdge]) | ((first | refine DW_exit ?_ | refine DW_skip ?_); simp [hnt, dEdge]) | (intro hc; (try simp [hnt, dEdge] at hc); (try (exfalso; omega))) | (refine ⟨?_, ?_⟩; · omega) | omega | apply_assumption -exfalso -symm | (exfalso; omega)))
  refine DW_loop (X := {k : Nat // k ≤ l.length ∧ ∀ i x, i < k → l[i]? = some x → s ≠ x}) (fun x => ⟨[(0, dEds l), (3, .ref (dEdge s)), (7, .int .i64 l.length), (8, .int .i64 x.1)], []⟩) (fun x => l.length - x.1) ⟨0, by simp⟩ (Sub.lit (by simp [dEdge])) ?_
  rintro ⟨k, hk, hno⟩
  by_cases hlt : k < l.length
  · obtain ⟨x, hx, hx', hxm⟩ := at_lt' hlt
    by_cases hb : s = x
    · subst hb
      have hRk : R = k := by rw [hR]; exact placeE_some hlt hx' hno
      subst hRk
      (repeat (first | refine DW_seq fun K hK => ?_ | (refine DW_r anWB370 Tryz.mixed (by kernel_rfl) ?_; simp [anWB370, hnt, dEdge, hlt, hx', hx]; try simp (disch := omega) only [wrap64_in]) | refine DW_block ?_ | (refine DW_if ?_ ?_ ?_; (· (simp [hnt, dEdge, hlt, hx', hx]; done)); (try (rotate_left; (· (intro hc; (try simp [hnt, dEdge, hlt, hx', hx] at hc); done))))) | (refine DW_ret ?_; simp [Tryz.results70, hnt, dEdge, hlt, hx', hx]) | ((first | refine DW_exit ?_ | refine DW_skip ?_); simp [hnt, dEdge, hlt, hx', hx]) | (intro hc; (try simp [hnt, dEdge, hlt, hx', hx] at hc); (try (exfalso; omega))) | (refine ⟨?_, ?_⟩; · omega) | omega | apply_assumption -exfalso -symm | (exfalso; omega)))
    · have hno' : ∀ i y, i < k + 1 → l[i]? = some y → s ≠ y := by
        intro i y hi hy
        by_cases hik : i = k
        · subst hik; rw [hx] at hy; simp only [Option.some.injEq] at hy; subst hy; exact hb
        · exact hno i y (by omega) hy
      have hne : (s.fr == x.fr && (s.lb == x.lb && s.to == x.to)) = false := by
        rw [Bool.eq_false_iff]
        intro hh
        simp only [Bool.and_eq_true, beq_iff_eq] at hh
        apply hb
        cases s; cases x
        simp only at hh
        rw [hh.1, hh.2.1, hh.2.2]
      (repeat (first | refine DW_seq fun K hK => ?_ | (refine DW_r anWB370 Tryz.mixed (by kernel_rfl) ?_; simp [anWB370, hnt, dEdge, hlt, hx', hx, hne]; try simp (disch := omega) only [wrap64_in]) | refine DW_block ?_ | (refine DW_if ?_ ?_ ?_; (· (simp [hnt, dEdge, hlt, hx', hx, hne]; done)); (try (rotate_left; (· (intro hc; (try simp [hnt, dEdge, hlt, hx', hx, hne] at hc); done))))) | (refine DW_ret ?_; simp [Tryz.results70, hnt, dEdge, hlt, hx', hx, hne]) | ((first | refine DW_exit ?_ | refine DW_skip ?_); simp [hnt, dEdge, hlt, hx', hx, hne]) | (intro hc; (try simp [hnt, dEdge, hlt, hx', hx, hne] at hc); (try (exfalso; omega))) | (refine ⟨?_, ?_⟩; · omega) | omega | apply_assumption -exfalso -symm | (exfalso; omega)))
      exact Again.mk ⟨k + 1, by omega, hno'⟩ (Sub.lit (by simp [dEdge])) (by simp; omega)
      (repeat (first | refine DW_seq fun K hK => ?_ | (refine DW_r anWB370 Tryz.mixed (by kernel_rfl) ?_; simp [anWB370, hnt]; try simp (disch := omega) only [wrap64_in]) | refine DW_block ?_ | (refine DW_if ?_ ?_ ?_; (· (simp [hnt]; done)); (try (rotate_left; (· (intro hc; (try simp [hnt] at hc); done))))) | (refine DW_ret ?_; simp [Tryz.results70, hnt]) | ((first | refine DW_exit ?_ | refine DW_skip ?_); simp [hnt]) | (intro hc; (try simp [hnt] at hc); (try (exfalso; omega))) | (refine ⟨?_, ?_⟩; · omega) | omega | apply_assumption -exfalso -symm | (exfalso; omega)))
  · have hkk : k = l.length := by omega
    subst hkk
    have hRk : R = -1 := by rw [hR]; exact placeE_none hno
    subst hRk
    (repeat (first | refine DW_seq fun K hK => ?_ | (refine DW_r anWB370 Tryz.mixed (by kernel_rfl) ?_; simp [anWB370, hnt]; try simp (disch := omega) only [wrap64_in]) | refine DW_block ?_ | (refine DW_if ?_ ?_ ?_; (· (simp [hnt]; done)); (try (rotate_left; (· (intro hc; (try simp [hnt] at hc); done))))) | (refine DW_ret ?_; simp [Tryz.results70, hnt]) | ((first | refine DW_exit ?_ | refine DW_skip ?_); simp [hnt]) | (intro hc; (try simp [hnt] at hc); (try (exfalso; omega))) | (refine ⟨?_, ?_⟩; · omega) | omega | apply_assumption -exfalso -symm | (exfalso; omega)))
end Go.Proofs.YtffdjbdokgbibaaGreat
end

section
/- The data machine, second make, part Sc: scopes through which the run goes without a goto. -/


set_option linter.unusedSimpArgs false
set_option linter.unusedVariables false
namespace Go

section
variable {F : Fence} {n : Nat} {P : Program} {Q : Exit → Act → World → Prop} {a : Act} {w : World}
theorem stepR_scope {b : Frame} {k : List Item} {cs : List Frame} {c : Code} : step P (lone (b.atR a (.code (.scope c) :: k)) cs w) = .next (lone (b.atR a (.code c :: .inScope c :: k)) cs w) :=
  step_lone_go (by simp [stepG, stepG.exec, Frame.atR])
theorem stepR_inScope {b : Frame} {k : List Item} {cs : List Frame} {c : Code} : step P (lone (b.atR a (.inScope c :: k)) cs w) = .next (lone (b.atR a k) cs w) :=
  step_lone_go (by simp [stepG, stepG.exec, Frame.atR])
theorem wpIn_scope_straight {c : Code} (h : c.wpIn F n P (Exit.noGoto Q) a w) : (Code.scope c).wpIn F n P Q a w := by
  intro b k cs hro hb hr
  have h0 : (lone (b.atR a (.code (.scope c) :: k)) cs w).fenced P F := fenced_calm hb hr rfl
  obtain ⟨e, a₁, w₁, hq, harr⟩ := h b (.inScope c :: k) cs hro hb hr
  cases e with
  | normal => exact ⟨.normal, a₁, w₁, hq, .head h0 stepR_scope (StepsIn.trans harr (.one (fenced_calm hb hr rfl) stepR_inScope))⟩
  | exit id =>
    have hx : exitTo id (.inScope c :: k) = exitTo id k := by simp [exitTo]
    exact ⟨_, a₁, w₁, hq, fun k' hk => .head h0 stepR_scope (harr.1 k' (by rw [hx]; exact hk)),
      fun hr' hk => let ⟨k₁, h1, h2⟩ := harr.2 hr' (by rw [hx]; exact hk); ⟨k₁, h1, .head h0 stepR_scope h2⟩⟩
  | goto l => exact hq.elim
  | ret => exact ⟨_, a₁, w₁, hq, .of_steps (.one h0 stepR_scope) harr⟩
  | panic ch => exact ⟨_, a₁, w₁, hq, .of_steps (.one h0 stepR_scope) harr⟩
  | outgrown => exact ⟨_, a₁, w₁, hq, .of_steps (.one h0 stepR_scope) harr⟩
end
end Go
namespace Go.Dm
def Dscope (Q : Exit → DS → Prop) : Exit → DS → Prop
  | .goto _, _ => False
  | e, s => Q e s
theorem DW_scope {P : Program} {B : Base} {Q : Exit → DS → Prop} {s : DS} {c : Code} (h : DW P B c (Dscope Q) s) : DW P B (.scope c) Q s := by
  intro a w loc R
  refine wpIn_scope_straight (wpIn_mono (h a w loc R) ?_)
  rintro e a' w' ⟨s', loc', hq, R'⟩
  cases e <;> first
    | exact hq.elim
    | exact ⟨s', loc', hq, R'⟩
attribute [simp] Dscope
end Go.Dm
end

section
/- ways: joined, first, Spell, SameTexts -/


set_option linter.unusedSimpArgs false
set_option linter.unusedVariables false
namespace Go.Proofs.YtffdjbdokgbibaaGreat
open Go Go.Dm
attribute [local irreducible] DW callP callS
set_option maxRecDepth 100000

def anWB456 : Ann := ⟨[], []⟩
theorem contains105_pure (l : List Edge) (s : Edge) : DPure Tryz.prog 56 [dEds l, .agg (dEdge s)] (.bool (decide (0 ≤ placeE l s))) := by
  refine DPure_introF [] (fn := Tryz.f56) Tryz.func56 rfl Tryz.call56 (by simp [Tryz.ntmps56]) (by simp [mx]) ?_
  intro hwf B hnt
  simp only [Tryz.ntmps56] at hnt
  simp only [argS]
  have h := index140_pure l s
  simp only [dEdge] at h
  (repeat (first | refine DW_seq fun K hK => ?_ | (refine DW_r anWB456 Tryz.mixed (by kernel_rfl) ?_; simp [anWB456, hnt, dEdge]; try simp (disch := omega) only [wrap64_in]) | refine DW_block ?_ | (refine DW_if ?_ ?_ ?_; (· (simp [hnt, dEdge]; done)); (try (rotate_left; (· (intro hc; (try simp [hnt, dEdge] at hc); done))))) | (refine DW_ret ?_; simp [Tryz.results56, hnt, dEdge]) | ((first | refine DW_exit ?_ | refine DW_skip ?_); simp [hnt, dEdge]) | (intro hc; (try simp [hnt, dEdge] at hc); (try (exfalso; omega))) | ((first | refine callP_mk (h) ?_ | (refine callP_wk (h) ?_ ?_; (· (simp; done)))); try simp [hnt, dEdge]) | (refine ⟨?_, ?_⟩; · omega) | omega | apply_assumption -exfalso -symm | (exfalso; omega)))
def anWB431 : Ann := ⟨[], []⟩
theorem first4_pure (g1 g2 g3 g4 : FuncId) (c1 c2 c3 c4 : List DVal) (e1 e2 e3 e4 : Int) (h1 : DPure Tryz.prog g1 c1 (.int .i64 e1)) (h2 : e1 = 0 → DPure Tryz.prog g2 c2 (.int .i64 e2)) (h3 : e1 = 0 → e2 = 0 → DPure Tryz.prog g3 c3 (.int .i64 e3)) (h4 : e1 = 0 → e2 = 0 → e3 = 0 → DPure Tryz.prog g4 c4 (.int .i64 e4)) :
    DPure Tryz.prog 31 [.sl 1 8 [[.fn (.func g1) [] c1], [.fn (.func g2) [] c2], [.fn (.func g3) [] c3], [.fn (.func g4) [] c4]]] (.int .i64 (if e1 = 0 then (if e2 = 0 then (if e3 = 0 then e4 else e3) else e2) else e1)) := by
  refine DPure_introF [] (fn := Tryz.f31) Tryz.func31 rfl Tryz.call31 (by simp [Tryz.ntmps31]) (by simp [mx]) ?_
  intro hwf B hnt
  simp only [Tryz.ntmps31] at hnt
  simp only [argS]
  clear hwf
  obtain ⟨R, hR⟩ : ∃ R, R = (if e1 = 0 then (if e2 = 0 then (if e3 = 0 then e4 else e3) else e2) else e1) := ⟨_, rfl⟩
  rw [← hR]
  (repeat (first | refine DW_seq fun K hK => ?_ | (refine DW_r anWB431 Tryz.mixed (by kernel_rfl) ?_; simp [anWB431, hnt]; try simp (disch := omega) only [wrap64_in]) | refine DW_block ?_ | (refine DW_if ?_ ?_ ?_; (· (simp [hnt]; done)); (try (rotate_left; (· (intro hc; (try simp [hnt] at hc); done))))) | (refine DW_ret ?_; simp [Tryz.results31, hnt]) | ((first | refine DW_exit ?_ | refine DW_skip ?_); simp [hnt]) | (intro hc; (try simp [hnt] at hc); (try (exfalso; omega))) | (refine ⟨?_, ?_⟩; · omega) | omega | apply_assumption -exfalso -symm | (exfalso; omega)))
  refine DW_loop (X := {k : Nat // k ≤ 4 ∧ (1 ≤ k → e1 = 0) ∧ (2 ≤ k → e2 = 0) ∧ (3 ≤ k → e3 = 0) ∧ (4 ≤ k → e4 = 0)}) (fun x => ⟨[(6, .sl 1 8 [[.fn (.func g1) [] c1], [.fn (.func g2) [] c2], [.fn (.func g3) [] c3], [.fn (.func g4) [] c4]]), (7, .int .i64 4), (8, .int .i64 x.1)], []⟩) (fun x => 4 - x.1) ⟨0, by simp⟩ (Sub.lit (by simp)) ?_
  rintro ⟨k, hk, q1, q2, q3, q4⟩
  match k, hk, q1, q2, q3, q4 with
  | 0, _, _, _, _, _ =>
    by_cases h : e1 = 0
    · subst h
      (repeat (first | refine DW_seq fun K hK => ?_ | (refine DW_r anWB431 Tryz.mixed (by kernel_rfl) ?_; simp [anWB431, hnt]; try simp (disch := omega) only [wrap64_in]) | refine DW_block ?_ | (refine DW_if ?_ ?_ ?_; (· (simp [hnt]; done)); (try (rotate_left; (· (intro hc; (try simp [hnt] at hc); done))))) | (refine DW_ret ?_; simp [Tryz.results31, hnt]) | ((first | refine DW_exit ?_ | refine DW_skip ?_); simp [hnt]) | (intro hc; (try simp [hnt] at hc); (try (exfalso; omega))) | ((first | refine callP_mk (h1) ?_ | (refine callP_wk (h1) ?_ ?_; (· (simp; done)))); try simp [hnt]) | (refine ⟨?_, ?_⟩; · omega) | omega | apply_assumption -exfalso -symm | (exfalso; omega)))
      exact Again.mk ⟨1, by omega, by simp, by omega, by omega, by omega⟩ (Sub.lit (by simp)) (by simp)
      (repeat (first | refine DW_seq fun K hK => ?_ | (refine DW_r anWB431 Tryz.mixed (by kernel_rfl) ?_; simp [anWB431, hnt]; try simp (disch := omega) only [wrap64_in]) | refine DW_block ?_ | (refine DW_if ?_ ?_ ?_; (· (simp [hnt]; done)); (try (rotate_left; (· (intro hc; (try simp [hnt] at hc); done))))) | (refine DW_ret ?_; simp [Tryz.results31, hnt]) | ((first | refine DW_exit ?_ | refine DW_skip ?_); simp [hnt]) | (intro hc; (try simp [hnt] at hc); (try (exfalso; omega))) | ((first | refine callP_mk (h1) ?_ | (refine callP_wk (h1) ?_ ?_; (· (simp; done)))); try simp [hnt]) | (refine ⟨?_, ?_⟩; · omega) | omega | apply_assumption -exfalso -symm | (exfalso; omega)))
    · have hRk : R = e1 := by rw [hR]; simp [h]
      subst hRk
      (repeat (first | refine DW_seq fun K hK => ?_ | (refine DW_r anWB431 Tryz.mixed (by kernel_rfl) ?_; simp [anWB431, hnt, h]; try simp (disch := omega) only [wrap64_in]) | refine DW_block ?_ | (refine DW_if ?_ ?_ ?_; (· (simp [hnt, h]; done)); (try (rotate_left; (· (intro hc; (try simp [hnt, h] at hc); done))))) | (refine DW_ret ?_; simp [Tryz.results31, hnt, h]) | ((first | refine DW_exit ?_ | refine DW_skip ?_); simp [hnt, h]) | (intro hc; (try simp [hnt, h] at hc); (try (exfalso; omega))) | ((first | refine callP_mk (h1) ?_ | (refine callP_wk (h1) ?_ ?_; (· (simp; done)))); try simp [hnt, h]) | (refine ⟨?_, ?_⟩; · omega) | omega | apply_assumption -exfalso -symm | (exfalso; omega)))
  | 1, _, q1, _, _, _ =>
    have q1 := q1 (by omega)
    have k2 := h2 q1
    clear h2 h3 h4
    subst q1
    by_cases h : e2 = 0
    · subst h
      (repeat (first | refine DW_seq fun K hK => ?_ | (refine DW_r anWB431 Tryz.mixed (by kernel_rfl) ?_; simp [anWB431, hnt]; try simp (disch := omega) only [wrap64_in]) | refine DW_block ?_ | (refine DW_if ?_ ?_ ?_; (· (simp [hnt]; done)); (try (rotate_left; (· (intro hc; (try simp [hnt] at hc); done))))) | (refine DW_ret ?_; simp [Tryz.results31, hnt]) | ((first | refine DW_exit ?_ | refine DW_skip ?_); simp [hnt]) | (intro hc; (try simp [hnt] at hc); (try (exfalso; omega))) | ((first | refine callP_mk (k2) ?_ | (refine callP_wk (k2) ?_ ?_; (· (simp; done)))); try simp [hnt]) | (refine ⟨?_, ?_⟩; · omega) | omega | apply_assumption -exfalso -symm | (exfalso; omega)))
      exact Again.mk ⟨2, by omega, by simp, by simp, by omega, by omega⟩ (Sub.lit (by simp)) (by simp)
      (repeat (first | refine DW_seq fun K hK => ?_ | (refine DW_r anWB431 Tryz.mixed (by kernel_rfl) ?_; simp [anWB431, hnt]; try simp (disch := omega) only [wrap64_in]) | refine DW_block ?_ | (refine DW_if ?_ ?_ ?_; (· (simp [hnt]; done)); (try (rotate_left; (· (intro hc; (try simp [hnt] at hc); done))))) | (refine DW_ret ?_; simp [Tryz.results31, hnt]) | ((first | refine DW_exit ?_ | refine DW_skip ?_); simp [hnt]) | (intro hc; (try simp [hnt] at hc); (try (exfalso; omega))) | ((first | refine callP_mk (k2) ?_ | (refine callP_wk (k2) ?_ ?_; (· (simp; done)))); try simp [hnt]) | (refine ⟨?_, ?_⟩; · omega) | omega | apply_assumption -exfalso -symm | (exfalso; omega)))
    · have hRk : R = e2 := by rw [hR]; simp [h]
      subst hRk
      (repeat (first | refine DW_seq fun K hK => ?_ | (refine DW_r anWB431 Tryz.mixed (by kernel_rfl) ?_; simp [anWB431, hnt, h]; try simp (disch := omega) only [wrap64_in]) | refine DW_block ?_ | (refine DW_if ?_ ?_ ?_; (· (simp [hnt, h]; done)); (try (rotate_left; (· (intro hc; (try simp [hnt, h] at hc); done))))) | (refine DW_ret ?_; simp [Tryz.results31, hnt, h]) | ((first | refine DW_exit ?_ | refine DW_skip ?_); simp [hnt, h]) | (intro hc; (try simp [hnt, h] at hc); (try (exfalso; omega))) | ((first | refine callP_mk (k2) ?_ | (refine callP_wk (k2) ?_ ?_; (· (simp; done)))); try simp [hnt, h]) | (refine ⟨?_, ?_⟩; · omega) | omega | apply_assumption -exfalso -symm | (exfalso; omega)))
  | 2, _, q1, q2, _, _ =>
    have q1 := q1 (by omega)
    have q2 := q2 (by omega)
    have k3 := h3 q1 q2
    clear h2 h3 h4
    subst q1; subst q2
    by_cases h : e3 = 0
    · subst h
      (repeat (first | refine DW_seq fun K hK => ?_ | (refine DW_r anWB431 Tryz.mixed (by kernel_rfl) ?_; simp [anWB431, hnt]; try simp (disch := omega) only [wrap64_in]) | refine DW_block ?_ | (refine DW_if ?_ ?_ ?_; (· (simp [hnt]; done)); (try (rotate_left; (· (intro hc; (try simp [hnt] at hc); done))))) | (refine DW_ret ?_; simp [Tryz.results31, hnt]) | ((first | refine DW_exit ?_ | refine DW_skip ?_); simp [hnt]) | (intro hc; (try simp [hnt] at hc); (try (exfalso; omega))) | ((first | refine callP_mk (k3) ?_ | (refine callP_wk (k3) ?_ ?_; (· (simp; done)))); try simp [hnt]) | (refine ⟨?_, ?_⟩; · omega) | omega | apply_assumption -exfalso -symm | (exfalso; omega)))
      exact Again.mk ⟨3, by omega, by simp, by simp, by simp, by omega⟩ (Sub.lit (by simp)) (by simp)
      (repeat (first | refine DW_seq fun K hK => ?_ | (refine DW_r anWB431 Tryz.mixed (by kernel_rfl) ?_; simp [anWB431, hnt]; try simp (disch := omega) only [wrap64_in]) | refine DW_block ?_ | (refine DW_if ?_ ?_ ?_; (· (simp [hnt]; done)); (try (rotate_left; (· (intro hc; (try simp [hnt] at hc); done))))) | (refine DW_ret ?_; simp [Tryz.results31, hnt]) | ((first | refine DW_exit ?_ | refine DW_skip ?_); simp [hnt]) | (intro hc; (try simp [hnt] at hc); (try (exfalso; omega))) | ((first | refine callP_mk (k3) ?_ | (refine callP_wk (k3) ?_ ?_; (· (simp; done)))); try simp [hnt]) | (refine ⟨?_, ?_⟩; · omega) | omega | apply_assumption -exfalso -symm | (exfalso; omega)))
    · have hRk : R = e3 := by rw [hR]; simp [h]
      subst hRk
      (repeat (first | refine DW_seq fun K hK => ?_ | (refine DW_r anWB431 Tryz.mixed (by kernel_rfl) ?_; simp [anWB431, hnt, h]; try simp (disch := omega) only [wrap64_in]) | refine DW_block ?_ | (refine DW_if ?_ ?_ ?_; (· (simp [hnt, h]; done)); (try (rotate_left; (· (intro hc; (try simp [hnt, h] at hc); done))))) | (refine DW_ret ?_; simp [Tryz.results31, hnt, h]) | ((first | refine DW_exit ?_ | refine DW_skip ?_); simp [hnt, h]) | (intro hc; (try simp [hnt, h] at hc); (try (exfalso; omega))) | ((first | refine callP_mk (k3) ?_ | (refine callP_wk (k3) ?_ ?_; (· (simp; done)))); try simp [hnt, h]) | (refine ⟨?_, ?_⟩; · omega) | omega | apply_assumption -exfalso -symm | (exfalso; omega)))
  | 3, _, q1, q2, q3, _ =>
    have q1 := q1 (by omega)
    have q2 := q2 (by omega)
    have q3 := q3 (by omega)
    have k4 := h4 q1 q2 q3
    clear h2 h3 h4
    subst q1; subst q2; subst q3
    by_cases h : e4 = 0
    · subst h
      (repeat (first | refine DW_seq fun K hK => ?_ | (refine DW_r anWB431 Tryz.mixed (by kernel_rfl) ?_; simp [anWB431, hnt]; try simp (disch := omega) only [wrap64_in]) | refine DW_block ?_ | (refine DW_if ?_ ?_ ?_; (· (simp [hnt]; done)); (try (rotate_left; (· (intro hc; (try simp [hnt] at hc); done))))) | (refine DW_ret ?_; simp [Tryz.results31, hnt]) | ((first | refine DW_exit ?_ | refine DW_skip ?_); simp [hnt]) | (intro hc; (try simp [hnt] at hc); (try (exfalso; omega))) | ((first | refine callP_mk (k4) ?_ | (refine callP_wk (k4) ?_ ?_; (· (simp; done)))); try simp [hnt]) | (refine ⟨?_, ?_⟩; · omega) | omega | apply_assumption -exfalso -symm | (exfalso; omega)))
      exact Again.mk ⟨4, by omega, by simp, by simp, by simp, by simp⟩ (Sub.lit (by simp)) (by simp)
      (repeat (first | refine DW_seq fun K hK => ?_ | (refine DW_r anWB431 Tryz.mixed (by kernel_rfl) ?_; simp [anWB431, hnt]; try simp (disch := omega) only [wrap64_in]) | refine DW_block ?_ | (refine DW_if ?_ ?_ ?_; (· (simp [hnt]; done)); (try (rotate_left; (· (intro hc; (try simp [hnt] at hc); done))))) | (refine DW_ret ?_; simp [Tryz.results31, hnt]) | ((first | refine DW_exit ?_ | refine DW_skip ?_); simp [hnt]) | (intro hc; (try simp [hnt] at hc); (try (exfalso; omega))) | ((first | refine callP_mk (k4) ?_ | (refine callP_wk (k4) ?_ ?_; (· (simp; done)))); try simp [hnt]) | (refine ⟨?_, ?_⟩; · omega) | omega | apply_assumption -exfalso -symm | (exfalso; omega)))
    · have hRk : R = e4 := by rw [hR]; simp
      subst hRk
      (repeat (first | refine DW_seq fun K hK => ?_ | (refine DW_r anWB431 Tryz.mixed (by kernel_rfl) ?_; simp [anWB431, hnt, h]; try simp (disch := omega) only [wrap64_in]) | refine DW_block ?_ | (refine DW_if ?_ ?_ ?_; (· (simp [hnt, h]; done)); (try (rotate_left; (· (intro hc; (try simp [hnt, h] at hc); done))))) | (refine DW_ret ?_; simp [Tryz.results31, hnt, h]) | ((first | refine DW_exit ?_ | refine DW_skip ?_); simp [hnt, h]) | (intro hc; (try simp [hnt, h] at hc); (try (exfalso; omega))) | ((first | refine callP_mk (k4) ?_ | (refine callP_wk (k4) ?_ ?_; (· (simp; done)))); try simp [hnt, h]) | (refine ⟨?_, ?_⟩; · omega) | omega | apply_assumption -exfalso -symm | (exfalso; omega)))
  | 4, _, q1, q2, q3, q4 =>
    clear h2 h3 h4
    have q1 := q1 (by omega)
    have q2 := q2 (by omega)
    have q3 := q3 (by omega)
    have q4 := q4 (by omega)
    subst q1; subst q2; subst q3; subst q4
    have hRk : R = 0 := by rw [hR]; simp
    subst hRk
    (repeat (first | refine DW_seq fun K hK => ?_ | (refine DW_r anWB431 Tryz.mixed (by kernel_rfl) ?_; simp [anWB431, hnt]; try simp (disch := omega) only [wrap64_in]) | refine DW_block ?_ | (refine DW_if ?_ ?_ ?_; (· (simp [hnt]; done)); (try (rotate_left; (· (intro hc; (try simp [hnt] at hc); done))))) | (refine DW_ret ?_; simp [Tryz.results31, hnt]) | ((first | refine DW_exit ?_ | refine DW_skip ?_); simp [hnt]) | (intro hc; (try simp [hnt] at hc); (try (exfalso; omega))) | (refine ⟨?_, ?_⟩; · omega) | omega | apply_assumption -exfalso -symm | (exfalso; omega)))

/-- where edges lead, one behind the other, all of a list -/
def wayAt (es : List Edge) : ByteArray → List Edge → Option ByteArray
  | p, [] => some p
  | p, x :: l => if x.fr = p ∧ 0 ≤ placeE es x then wayAt es x.to l else none
def isWay (g : Edges) (a b : ByteArray) (way : List Edge) : Bool := match wayAt g.edges a way with
  | some z => z == b
  | none => false

def anWB439 : Ann := ⟨[], [⟨5, [12], [], []⟩]⟩
theorem joined_pure (g : Edges) (a b : ByteArray) (way : List Edge) : DPure Tryz.prog 39 [.agg (dGr g), .str a, .str b, dEds way] (.bool (isWay g a b way)) := by
  refine DPure_introF [] (fn := Tryz.f39) Tryz.func39 rfl Tryz.call39 (by simp [Tryz.ntmps39]) (by simp [mx]) ?_
  intro hwf B hnt
  simp only [Tryz.ntmps39] at hnt
  have hlen : way.length < 9223372036854775807 := len_eds hwf.2.2.2.1
  clear hwf
  simp only [argS]
  obtain ⟨R, hR⟩ : ∃ R, R = isWay g a b way := ⟨_, rfl⟩
  rw [← hR]
  unfold isWay at hR
  (repeat (first | refine DW_seq fun K hK => ?_ | (refine DW_r anWB439 Tryz.mixed (by kernel_rfl) ?_; simp [anWB439, hnt, dGr]; try simp (disch := omega) only [wrap64_in]) | refine DW_block ?_ | (refine DW_if ?_ ?_ ?_; (· (simp [hnt, dGr]; done)); (try (rotate_left; (· (intro hc; (try simp [hnt, dGr] at hc); done))))) | (refine DW_ret ?_; simp [Tryz.results39, hnt, dGr]) | ((first | refine DW_exit ?_ | refine DW_skip ?_); simp [hnt, dGr]) | (intro hc; (try simp [hnt, dGr] at hc); (try (exfalso; omega))) | (refine ⟨?_, ?_⟩; · omega) | omega | apply_assumption -exfalso -symm | (exfalso; omega)))
  refine DW_scope ?_
  (repeat (first | refine DW_seq fun K hK => ?_ | (refine DW_r anWB439 Tryz.mixed (by kernel_rfl) ?_; simp [anWB439, hnt, dGr]; try simp (disch := omega) only [wrap64_in]) | refine DW_block ?_ | (refine DW_if ?_ ?_ ?_; (· (simp [hnt, dGr]; done)); (try (rotate_left; (· (intro hc; (try simp [hnt, dGr] at hc); done))))) | (refine DW_ret ?_; simp [Tryz.results39, hnt, dGr]) | ((first | refine DW_exit ?_ | refine DW_skip ?_); simp [hnt, dGr]) | (intro hc; (try simp [hnt, dGr] at hc); (try (exfalso; omega))) | (refine ⟨?_, ?_⟩; · omega) | omega | apply_assumption -exfalso -symm | (exfalso; omega)))
  refine DW_label ?_
  simp
  (repeat (first | refine DW_seq fun K hK => ?_ | (refine DW_r anWB439 Tryz.mixed (by kernel_rfl) ?_; simp [anWB439, hnt, dGr]; try simp (disch := omega) only [wrap64_in]) | refine DW_block ?_ | (refine DW_if ?_ ?_ ?_; (· (simp [hnt, dGr]; done)); (try (rotate_left; (· (intro hc; (try simp [hnt, dGr] at hc); done))))) | (refine DW_ret ?_; simp [Tryz.results39, hnt, dGr]) | ((first | refine DW_exit ?_ | refine DW_skip ?_); simp [hnt, dGr]) | (intro hc; (try simp [hnt, dGr] at hc); (try (exfalso; omega))) | (refine ⟨?_, ?_⟩; · omega) | omega | apply_assumption -exfalso -symm | (exfalso; omega)))
  refine DW_loop (X := {x : Nat × ByteArray // x.1 ≤ way.length ∧ wayAt g.edges x.2 (way.drop x.1) = wayAt g.edges a way})
    (fun x => ⟨[(2, .str b), (4, .ref (dGr g)), (9, .str x.1.2), (10, .bool true), (14, dEds way), (15, .int .i64 way.length), (16, .int .i64 x.1.1)], []⟩) (fun x => way.length - x.1.1) ⟨(0, a), by simp⟩ (Sub.lit (by simp [dGr])) ?_
  rintro ⟨⟨k, p⟩, hk, hw⟩
  simp only at hk hw ⊢
  by_cases hlt : k < way.length
  · obtain ⟨x, hx, hx', hxm⟩ := at_lt' hlt
    rw [List.drop_eq_getElem_cons hlt, hx'] at hw
    simp only [wayAt] at hw
    have h1 := contains105_pure g.edges x
    simp only [dEdge] at h1
    by_cases c1 : x.fr = p
    · subst c1
      by_cases c2 : 0 ≤ placeE g.edges x
      · rw [if_pos ⟨rfl, c2⟩] at hw
        simp only [c2, decide_true] at h1
        (repeat (first | refine DW_seq fun K hK => ?_ | (refine DW_r anWB439 Tryz.mixed (by kernel_rfl) ?_; simp [anWB439, hnt, dGr, dEdge, hlt, hx, hx']; try simp (disch := omega) only [wrap64_in]) | refine DW_block ?_ | (refine DW_if ?_ ?_ ?_; (· (simp [hnt, dGr, dEdge, hlt, hx, hx']; done)); (try (rotate_left; (· (intro hc; (try simp [hnt, dGr, dEdge, hlt, hx, hx'] at hc); done))))) | (refine DW_ret ?_; simp [Tryz.results39, hnt, dGr, dEdge, hlt, hx, hx']) | ((first | refine DW_exit ?_ | refine DW_skip ?_); simp [hnt, dGr, dEdge, hlt, hx, hx']) | (intro hc; (try simp [hnt, dGr, dEdge, hlt, hx, hx'] at hc); (try (exfalso; omega))) | ((first | refine callP_mk (h1) ?_ | (refine callP_wk (h1) ?_ ?_; (· (simp; done)))); try simp [hnt, dGr, dEdge, hlt, hx, hx']) | (refine ⟨?_, ?_⟩; · omega) | omega | apply_assumption -exfalso -symm | (exfalso; omega)))
        exact Again.mk ⟨(k + 1, x.to), show k + 1 ≤ way.length ∧ wayAt g.edges x.to (way.drop (k + 1)) = wayAt g.edges a way from ⟨by omega, hw⟩⟩ (Sub.lit (by simp [dGr])) (by simp; omega)
        (repeat (first | refine DW_seq fun K hK => ?_ | (refine DW_r anWB439 Tryz.mixed (by kernel_rfl) ?_; simp [anWB439, hnt]; try simp (disch := omega) only [wrap64_in]) | refine DW_block ?_ | (refine DW_if ?_ ?_ ?_; (· (simp [hnt]; done)); (try (rotate_left; (· (intro hc; (try simp [hnt] at hc); done))))) | (refine DW_ret ?_; simp [Tryz.results39, hnt]) | ((first | refine DW_exit ?_ | refine DW_skip ?_); simp [hnt]) | (intro hc; (try simp [hnt] at hc); (try (exfalso; omega))) | ((first | refine callP_mk (h1) ?_ | (refine callP_wk (h1) ?_ ?_; (· (simp; done)))); try simp [hnt]) | (refine ⟨?_, ?_⟩; · omega) | omega | apply_assumption -exfalso -symm | (exfalso; omega)))
      · rw [if_neg (fun h => c2 h.2)] at hw
        simp only [c2, decide_false] at h1
        rw [← hw] at hR
        simp only at hR
        subst hR
        (repeat (first | refine DW_seq fun K hK => ?_ | (refine DW_r anWB439 Tryz.mixed (by kernel_rfl) ?_; simp [anWB439, hnt, dGr, dEdge, hlt, hx, hx']; try simp (disch := omega) only [wrap64_in]) | refine DW_block ?_ | (refine DW_if ?_ ?_ ?_; (· (simp [hnt, dGr, dEdge, hlt, hx, hx']; done)); (try (rotate_left; (· (intro hc; (try simp [hnt, dGr, dEdge, hlt, hx, hx'] at hc); done))))) | (refine DW_ret ?_; simp [Tryz.results39, hnt, dGr, dEdge, hlt, hx, hx']) | ((first | refine DW_exit ?_ | refine DW_skip ?_); simp [hnt, dGr, dEdge, hlt, hx, hx']) | (intro hc; (try simp [hnt, dGr, dEdge, hlt, hx, hx'] at hc); (try (exfalso; omega))) | ((first | refine callP_mk (h1) ?_ | (refine callP_wk (h1) ?_ ?_; (· (simp; done)))); try simp [hnt, dGr, dEdge, hlt, hx, hx']) | (refine ⟨?_, ?_⟩; · omega) | omega | apply_assumption -exfalso -symm | (exfalso; omega)))
    · rw [if_neg (fun h => c1 h.1)] at hw
      rw [← hw] at hR
      simp only at hR
      subst hR
      have c1b : (x.fr == p) = false := by simpa using c1
      (repeat (first | refine DW_seq fun K hK => ?_ | (refine DW_r anWB439 Tryz.mixed (by kernel_rfl) ?_; simp [anWB439, hnt, dGr, dEdge, hlt, hx, hx', c1b]; try simp (disch := omega) only [wrap64_in]) | refine DW_block ?_ | (refine DW_if ?_ ?_ ?_; (· (simp [hnt, dGr, dEdge, hlt, hx, hx', c1b]; done)); (try (rotate_left; (· (intro hc; (try simp [hnt, dGr, dEdge, hlt, hx, hx', c1b] at hc); done))))) | (refine DW_ret ?_; simp [Tryz.results39, hnt, dGr, dEdge, hlt, hx, hx', c1b]) | ((first | refine DW_exit ?_ | refine DW_skip ?_); simp [hnt, dGr, dEdge, hlt, hx, hx', c1b]) | (intro hc; (try simp [hnt, dGr, dEdge, hlt, hx, hx', c1b] at hc); (try (exfalso; omega))) | ((first | refine callP_mk (h1) ?_ | (refine callP_wk (h1) ?_ ?_; (· (simp; done)))); try simp [hnt, dGr, dEdge, hlt, hx, hx', c1b]) | (refine ⟨?_, ?_⟩; · omega) | omega | apply_assumption -exfalso -symm | (exfalso; omega)))
  · have hkk : k = way.length := by omega
    subst hkk
    rw [List.drop_length] at hw
    simp only [wayAt] at hw
    rw [← hw] at hR
    simp only at hR
    subst hR
    (repeat (first | refine DW_seq fun K hK => ?_ | (refine DW_r anWB439 Tryz.mixed (by kernel_rfl) ?_; simp [anWB439, hnt, dGr]; try simp (disch := omega) only [wrap64_in]) | refine DW_block ?_ | (refine DW_if ?_ ?_ ?_; (· (simp [hnt, dGr]; done)); (try (rotate_left; (· (intro hc; (try simp [hnt, dGr] at hc); done))))) | (refine DW_ret ?_; simp [Tryz.results39, hnt, dGr]) | ((first | refine DW_exit ?_ | refine DW_skip ?_); simp [hnt, dGr]) | (intro hc; (try simp [hnt, dGr] at hc); (try (exfalso; omega))) | (refine ⟨?_, ?_⟩; · omega) | omega | apply_assumption -exfalso -symm | (exfalso; omega)))

end Go.Proofs.YtffdjbdokgbibaaGreat
end

