/- Parts of a proof, laid together: EnW, EnX, RX5, WOg, WSg, BO0, EnBl, Lays, LayTs, EnY, EnSt, WB0, WJ0, WJ1, WJ2. -/
import Derived.RangeFuncNested
import Derived.Shelf.Strings.BuilderF
import Derived.Shelf.SlSortCmp.NoneTotal
import Derived.Shelf.SlGeneric
import Derived.Ground.SlsfProg
import Derived.Shelf.SortM.Plain
import Derived.Shelf.SortM.SortNone
import Derived.Shelf.Sort.Plain
import Derived.Shelf.Small.Strs
import Derived.Shelf.SlIter.Nil
import Derived.Shelf.SlIter.Sorted
import Derived.Ground.SlgmProg
import Derived.Ground.GgzProg
import Derived.Shelf.Spec.SlicesGrow
import Derived.Ground.Names8Prog
import Derived.Test.YtdgocjbakjamaaaGreatChecked
import Derived.Lib.Builder
import Derived.WalkKit
import Derived.BigCall
import Derived.Test.YtdgocjbakjamaaaGreatqSh4
import Derived.Test.YtdgocjbakjamaaaGreatqSh5
section
set_option linter.unusedSectionVars false
/- The data machine, second make, part W: a range over a function: its rounds, the loop's own state as a thing of which the iterator knows no more than that it can be called. -/

set_option linter.unusedSimpArgs false
set_option linter.unusedVariables false
namespace Go.Dm
variable [DMode]

theorem obj_nd {cur : Cur} {M : List Nat} {h : Array Obj} {l : Loc} {obj : DObj} (hk : ObjOK cur M h l obj) : ∀ b ∈ l.blks, ∀ c, h[b]? ≠ some (.deferred c) := by
 intro b hb c hc
 cases obj with
 | box cs =>
  obtain ⟨b', arr, ty, h1, h2, _⟩ := hk
  rw [h1] at hb
  simp only [List.mem_singleton] at hb
  subst hb
  rw [h2] at hc; simp at hc
 | row et k bs es =>
  obtain ⟨_, ⟨_, h1, _⟩ | ⟨b', arr, cap, h1, h2, h3, _⟩⟩ := hk
  ·rw [h1] at hb; cases hb
  ·rw [h1] at hb
   simp only [List.mem_singleton] at hb
   subst hb
   rw [h3] at hc; simp at hc
 | map ks vs =>
  obtain ⟨b', es, clk, h1, h2, _⟩ := hk
  rw [h1] at hb
  simp only [List.mem_singleton] at hb
  subst hb
  rw [h2] at hc; simp at hc
 | abs A => exact A.nd _ _ _ _ hk b hb c hc

def AbsL (sl : List (Nat × DVal)) (hsl : mxS sl ≤ 1) (own : List Ent) (tm : Array Value) (own0 : List Ent) (loc0 : Nat → Loc) (l : Nat) (L : Loop) : Abs where
 J := fun M bl hd h => hd = .func (.yield l) #[] #[] ∧ ∃ loc, bl = hotOf own loc ++ [l] ∧ (own.map (·.id)).Nodup ∧ (∀ e ∈ own, ObjOK (curOf own loc) M h (loc e.id) e.obj) ∧
  (∀ p ∈ sl, rd (curOf own loc) M h p.2 (tm.getD p.1 Go.undef)) ∧ h[l]? = some (.loop L) ∧ (∀ e ∈ own, e.r < 1 → curOf own0 loc0 e.id e.r = some (loc e.id))
 weak := by
  rintro M M' bl hd h h' hb hm hk ⟨h1, loc, h2, h3, h4, h5, h6, h7⟩
  have W : ∀ n, Weak (curOf own loc) (curOf own loc) M M' h h' n := fun n => ⟨fun _ _ _ _ h => h, hb, hm⟩
  refine ⟨h1, loc, h2, h3, fun e he => ObjOK_weak (W _) (Nat.le_refl _) (fun b o hb' ho => hk b o ?_ ho) (h4 e he), fun p hp => rd_weak (W _) _ _ (Nat.le_refl _) (h5 p hp), hk l _ ?_ h6, h7⟩
  ·rw [h2]; exact List.mem_append_left _ (mem_hot he hb')
  ·rw [h2]; simp
 one := by rintro _ _ _ _ ⟨rfl, _⟩; exact ⟨rfl, rfl⟩
 nd := by
  rintro M bl hd h ⟨_, loc, rfl, _, h4, _, h6, _⟩ b hb c hc
  rcases List.mem_append.1 hb with hb | hb
  ·obtain ⟨e, he, hb⟩ := List.mem_flatMap.1 hb
   exact obj_nd (h4 e he) b hb c hc
  ·simp only [List.mem_singleton] at hb
   subst hb
   rw [h6] at hc; simp at hc

def putM : List Nat → List DVal → List (Nat × DVal) → List (Nat × DVal)
 | p :: ps, d :: ds, l => putM ps ds ((p, d) :: l)
 | _, _, l => l

theorem size_zipset : ∀ (z : List (Nat × Value)) (t : Array Value), (z.foldl (fun t p => t.setIfInBounds p.1 p.2) t).size = t.size
 | [], t => rfl
 | p :: z, t => by rw [List.foldl_cons, size_zipset z]; simp

theorem putM_rd {cur : Cur} {M : List Nat} {h : Array Obj} : ∀ (ps : List Nat) (ds : List DVal) (vs : List Value) (l : List (Nat × DVal)) (t : Array Value), ds.length = ps.length → (∀ p ∈ ps, p < t.size) → rdV cur M h ds vs →
  (∀ i, rd cur M h (getS l i) (t.getD i Go.undef)) → ∀ i, rd cur M h (getS (putM ps ds l) i) (((ps.zip vs).foldl (fun t p => t.setIfInBounds p.1 p.2) t).getD i Go.undef)
 | [], ds, vs, l, t, hl, hp, hr, hs => by
  cases ds with
  | nil => simpa [putM] using hs
  | cons d ds => simp at hl
 | p :: ps, [], vs, l, t, hl, hp, hr, hs => by simp at hl
 | p :: ps, d :: ds, vs, l, t, hl, hp, hr, hs => by
  simp only [rdV] at hr
  obtain ⟨v, r, rfl, h1, h2⟩ := hr
  simp only [putM, List.zip_cons_cons, List.foldl_cons]
  refine putM_rd ps ds r _ _ (by simpa using hl) (fun q hq => by simpa using hp q (List.mem_cons_of_mem _ hq)) h2 ?_
  intro i
  have hlt := hp p List.mem_cons_self
  simp only [getS, Array.getD_eq_getD_getElem?, Array.getElem?_setIfInBounds]
  by_cases hi : i = p
  ·subst hi; simpa [hlt] using h1
  ·rw [if_neg hi, if_neg (fun h => hi h.symm)]
   have := hs i
   simpa [Array.getD_eq_getD_getElem?] using this

theorem getS_mem : ∀ (l : List (Nat × DVal)) (i : Nat), getS l i = .any ∨ (i, getS l i) ∈ l
 | [], i => .inl rfl
 | (j, d) :: l, i => by
  simp only [getS]
  split
  ·rename_i h; subst h; exact .inr (by simp)
  ·exact (getS_mem l i).imp id (fun h => List.mem_cons_of_mem _ h)

def RQ (B : Base) (okk : Bool) (S : List Ent) (j : Code) : Exit → DS → Prop
 | .normal, s => okk = true ∧ Sub B ⟨[], s.own⟩ ⟨[], S⟩
 | .ret, s => okk = false ∧ j = .ret ∧ Sub B ⟨[], s.own⟩ ⟨[], S⟩
 | .exit id, s => okk = false ∧ j = .exit id ∧ Sub B ⟨[], s.own⟩ ⟨[], S⟩
 | .goto t, s => okk = false ∧ j = .goto t ∧ Sub B ⟨[], s.own⟩ ⟨[], S⟩
 | _, _ => False
def RB (P : Program) (nt : Nat) (body : Code) (okk : Bool) (S : List Ent) (j : Code) (s : DS) : Prop := ∀ B : Base, B.nt = nt → DW P B body (RQ B okk S j) s
theorem RB_mk {P : Program} {nt : Nat} {body : Code} {okk : Bool} {S : List Ent} {j : Code} {s : DS} (h : ∀ B : Base, B.nt = nt → DW P B body (RQ B okk S j) s) : RB P nt body okk S j s := h
def RA (P : Program) (nt : Nat) (body : Code) (okk : Bool) (S : List Ent) (j : Code) : Exit → DS → Prop
 | .normal, s => RB P nt body okk S j s
 | _, _ => False

theorem chain_weak {own own' : List Ent} {loc loc' : Nat → Loc} {M M' : List Nat} {h h' : Array Obj} {n : Nat} (hc : ∀ e ∈ own', e.r < n → curOf own loc e.id e.r = some (loc' e.id)) (hb : ∀ (b : Nat) (o : Obj), b ∉ M → isD o = true → h[b]? = some o → h'[b]? = some o)
  (hm : ∀ b ∈ M', b ∈ M ∨ h.size ≤ b) : Weak (curOf own loc) (curOf own' loc') M M' h h' n where
 c := by
  intro id r l hr hl
  obtain ⟨e, he, rfl, rfl, rfl⟩ := curOf_some hl
  exact hc e he hr
 b := hb
 m := by
  intro b o hb' _ ho hm'
  rcases hm b hm' with h1 | h1
  ·exact hb' h1
  ·have := (Array.getElem?_eq_some_iff.1 ho).1; omega

theorem putObj_size (w : World) (l : Nat) (o : Obj) : (w.putObj l o).heap.size = w.heap.size := by simp [World.putObj]

theorem YAt_of {P : Program} {sl : List (Nat × DVal)} {hsl : mxS sl ≤ 1} {own S : List Ent} {tm : Array Value} {own0 : List Ent} {loc0 : Nat → Loc} {l nt : Nat} {L : Loop} {x : List DVal} {okk : Bool} {j : Code}
  (hL : L.state = .ready) (hLp : L.pending = none) (hLt : L.tmps = tm) (hnt : tm.size = nt) (hx : x.length = L.params.size) (hps : ∀ p ∈ L.params.toList, p < nt) (hx0 : mxL x = 0)
  (h : ∀ B : Base, B.nt = nt → DW P B L.assign (RA P nt L.body okk S j) ⟨putM L.params.toList x sl, own⟩) :
  YAt P l (AbsL sl hsl own tm own0 loc0 l L) x okk (AbsL sl hsl S tm own0 loc0 l { L with state := if okk then .ready else .done, pending := if okk then none else some j }) := by
 rintro M bl hd w vs hnd hblM hMlt ⟨rfl, loc, rfl, hidn, hobj, hslot, hrec, hver0⟩ hvs
 have hlM : l ∈ M := hblM l (by simp)
 have hlhot : l ∉ hotOf own loc := by
  intro hm
  rw [List.nodup_append] at hnd
  exact hnd.2.2 l hm l (by simp) rfl
 have hhotM : ∀ b ∈ hotOf own loc, b ∈ M := fun b hb => hblM b (List.mem_append_left _ hb)
 have hlen := rdV_length _ _ hvs
 simp only [Array.length_toList] at hlen
 have hy := run_yield (P := P) (args := vs) hrec (by omega)
 -- the base of the assignment
 let M0 : List Nat := M.filter (fun b => !(hotOf own loc).contains b)
 have hM0 : ∀ b, b ∈ M0 ↔ b ∈ M ∧ b ∉ hotOf own loc := by
  intro b
  simp only [M0, List.mem_filter, List.contains_eq_mem, Bool.not_eq_true', decide_eq_false_iff_not]
 have hMM : ∀ b, b ∈ hotOf own loc ++ M0 ↔ b ∈ M := by
  intro b
  rw [List.mem_append, hM0]
  constructor
  ·rintro (h | h)
   ·exact hhotM b h
   ·exact h.1
  ·intro h
   by_cases hb : b ∈ hotOf own loc
   ·exact .inl hb
   ·exact .inr ⟨h, hb⟩
 have W0 : ∀ n, Weak (curOf own loc) (curOf own loc) M (hotOf own loc ++ M0) w.heap w.heap n := fun n =>
  ⟨fun _ _ _ _ h => h, fun b o _ (_ : isD o = true) ho => ho, fun b o hb (_ : isD o = true) _ hm => hb ((hMM b).1 hm)⟩
 let B1 : Base := ⟨own, loc, M0, 1, w, nt, some l, by decide, w.heap.size, Nat.le_refl _⟩
 let a1 : Act := { tmps := (L.params.zip vs).foldl (fun tmps (t, a) => tmps.setIfInBounds t a) L.tmps, defers := [] }
 have hfold : a1.tmps = (L.params.toList.zip vs.toList).foldl (fun t p => t.setIfInBounds p.1 p.2) tm := by
  show (L.params.zip vs).foldl _ _ = _
  rw [← Array.foldl_toList, Array.toList_zip, hLt]
 have R1 : Rel B1 ⟨putM L.params.toList x sl, own⟩ a1 w loc := by
  refine ⟨⟨hidn, ?_, fun b hb hm => ((hM0 b).1 hm).2 hb, fun b hb => hMlt b ((hMM b).1 hb), fun e he => ObjOK_weak (W0 _) (Nat.le_refl _) (fun _ _ _ h => h) (hobj e he)⟩, Upd.refl _ _, fun b hb => .inl hb, fun e he _ => curOf_self hidn he, ?_, ?_, ⟨[], rfl, List.nodup_nil, by simp⟩⟩
  ·rw [List.nodup_append] at hnd; exact hnd.1
  ·intro i
   rw [hfold]
   refine putM_rd _ _ _ _ _ (by simpa using hx) (fun p hp => by rw [hnt]; exact hps p hp) ?_ ?_ i
   ·exact rdV_weak (n := 0) ⟨fun _ _ _ h => by omega, fun b o _ (_ : isD o = true) ho => ho, fun b o hb (_ : isD o = true) _ hm => hb ((hMM b).1 hm)⟩ _ _ (Nat.le_of_eq hx0) hvs
   ·intro q
    rcases getS_mem sl q with h1 | h1
    ·rw [h1]; simp [rd]
    ·exact rd_weak (W0 _) _ _ (Nat.le_refl _) (hslot _ h1)
  ·rw [hfold, size_zipset]; exact hnt
 refine ⟨L.fn, _, L.assign, L.body, hy, roundIn_of_wpIn (F := wd none) trivial ?_⟩
 refine wpIn_mono (h B1 rfl a1 w loc R1) ?_
 rintro e a' w' ⟨s', loc', hq, R'⟩
 cases e <;> simp only [RA] at hq <;> first
  | exact hq.elim
  | skip
 -- the record lies as it lay
 have hl0 : w'.heap[l]? = some (.loop L) := by
  rw [R'.upd.blk l (Array.getElem?_eq_some_iff.1 hrec).1 hlhot]; exact hrec
 have hllt : l < w'.heap.size := (Array.getElem?_eq_some_iff.1 hl0).1
 refine ⟨w'.putObj l (.loop { L with state := .busy }), run_beginRound hl0 hL, ?_⟩
 obtain ⟨w2, hw2⟩ : ∃ w2, w2 = w'.putObj l (.loop { L with state := .busy }) := ⟨_, rfl⟩
 rw [← hw2]
 have hsz2 : w2.heap.size = w'.heap.size := by rw [hw2]; exact putObj_size _ _ _
 have hoth : ∀ b, b ≠ l → w2.heap[b]? = w'.heap[b]? := fun b hb => by rw [hw2]; exact World.putObj_heap_other hb
 have hlb : w2.heap[l]? = some (.loop { L with state := .busy }) := by rw [hw2]; exact World.putObj_heap_same hllt
 have hlM0 : l ∈ M0 := (hM0 l).2 ⟨hlM, hlhot⟩
 have hlhot' : l ∉ hotOf s'.own loc' := fun hm => R'.st.ap l hm hlM0
 have hd2 : ∀ (b : Nat) (o : Obj), isD o = true → w'.heap[b]? = some o → w2.heap[b]? = some o := by
  intro b o ho hb
  rw [hoth b (fun he => by subst he; rw [hl0] at hb; simp only [Option.some.injEq] at hb; subst hb; simp [isD] at ho)]
  exact hb
 have St2 : St s'.own loc' M0 w2.heap := R'.st.same (Nat.le_of_eq hsz2.symm) hd2 (fun b o hm hb => by rw [hoth b (fun he => hlhot' (he ▸ hm))]; exact hb)
 have W2 : ∀ n, Weak (curOf s'.own loc') (curOf s'.own loc') (hotOf s'.own loc' ++ M0) (hotOf s'.own loc' ++ M0) w'.heap w2.heap n := fun n =>
  ⟨fun _ _ _ _ h => h, fun b o _ (h1 : isD o = true) h2 => hd2 b o h1 h2, fun b o hb (_ : isD o = true) _ => hb⟩
 let B2 : Base := ⟨s'.own, loc', M0, 1, w2, nt, some l, by decide, w2.heap.size, Nat.le_refl _⟩
 obtain ⟨rs, hrs, _, _, hrs2⟩ := R'.df
 have hz : rs = [] := hrs2 (by simp [B1])
 let B2 : Base := ⟨s'.own, loc', M0, 1, w2, nt, some l, by decide, w2.heap.size, Nat.le_refl _⟩
 have R2 : Rel B2 s' a' w2 loc' :=
  ⟨St2, Upd.refl _ _, fun b hb => .inl hb, fun e he _ => curOf_self St2.nd he, fun i => rd_weak (W2 _) _ _ (Nat.le_refl _) (R'.sl i), R'.nt, ⟨[], by rw [hz] at hrs; simpa using hrs, List.nodup_nil, by simp⟩⟩
 refine wpIn_mono (hq B2 rfl a' w2 loc' R2) ?_
 rintro e a2 w3 ⟨s3, loc3, hq3, R3⟩
 have hl3 : w3.heap[l]? = some (.loop { L with state := .busy }) := by
  rw [R3.upd.blk l (Array.getElem?_eq_some_iff.1 hlb).1 hlhot']; exact hlb
 have fin : ∀ (jump : Option Code), Sub B2 ⟨[], s3.own⟩ ⟨[], S⟩ → jump.isNone = okk → jump = (if okk then none else some j) → ∃ v w4, (Instr.endRound l jump).run P w3 = .ok v w4 ∧ ∃ v0, Ending.returned v = .returned v0 ∧ v0 = .bool okk ∧ ∃ bl', Upd (hotOf own loc ++ [l]) w w4 ∧ bl'.Nodup ∧ (∀ q ∈ bl', q < w4.heap.size ∧ (q ∈ hotOf own loc ++ [l] ∨ w.heap.size ≤ q)) ∧
   ∀ M', (∀ q ∈ M', q ∈ bl' ∨ (q ∈ M ∧ q ∉ hotOf own loc ++ [l])) → (AbsL sl hsl S tm own0 loc0 l { L with state := if okk then .ready else .done, pending := if okk then none else some j }).J M' bl' (.func (.yield l) #[] #[]) w4.heap := by
  intro jump hsub hj1 hj2
  have hrun := run_endRound (P := P) jump hl3
  have hrec' : ({ ({ L with state := .busy } : Loop) with state := if jump.isNone then .ready else .done, pending := jump } : Loop) = { L with state := if okk then .ready else .done, pending := if okk then none else some j } := by
   rw [hj1, hj2]
  rw [hrec', hj1] at hrun
  obtain ⟨w4, hw4⟩ : ∃ w4, w4 = w3.putObj l (.loop { L with state := if okk then .ready else .done, pending := if okk then none else some j }) := ⟨_, rfl⟩
  rw [← hw4] at hrun
  have hl3lt := (Array.getElem?_eq_some_iff.1 hl3).1
  have hsz4 : w4.heap.size = w3.heap.size := by rw [hw4]; exact putObj_size _ _ _
  have hoth4 : ∀ b, b ≠ l → w4.heap[b]? = w3.heap[b]? := fun b hb => by rw [hw4]; exact World.putObj_heap_other hb
  have hl4 : w4.heap[l]? = some (.loop { L with state := if okk then .ready else .done, pending := if okk then none else some j }) := by rw [hw4]; exact World.putObj_heap_same hl3lt
  have R3' : Rel B2 ⟨[], s3.own⟩ a2 w3 loc3 := ⟨R3.st, R3.upd, R3.new, R3.ver, fun i => by simp [getS, rd], R3.nt, R3.df⟩
  obtain ⟨loc4, R4⟩ := hsub a2 w3 loc3 R3'
  have hl4hot : l ∉ hotOf S loc4 := fun hm => R4.st.ap l hm hlM0
  have uput : ∀ (v : World) (o : Obj), Upd [l] v (v.putObj l o) := fun v o => ⟨rfl, rfl, rfl, fun _ => Nat.le_refl _, by rw [putObj_size]; exact Nat.le_refl _, fun b _ hb => World.putObj_heap_other (fun h => hb (by simp [h]))⟩
  have U1 : Upd (hotOf own loc ++ [l]) w w' := (Upd.refl _ w).trans R'.upd (fun x hx => .inl (List.mem_append_left _ hx))
  have U2 : Upd (hotOf own loc ++ [l]) w w2 := by rw [hw2]; exact U1.trans (uput _ _) (fun x hx => .inl (List.mem_append_right _ hx))
  have U3 : Upd (hotOf own loc ++ [l]) w w3 := U2.trans R4.upd (fun x hx => (R'.new x hx).imp (fun h => List.mem_append_left _ h) id)
  have U4 : Upd (hotOf own loc ++ [l]) w w4 := by rw [hw4]; exact U3.trans (uput _ _) (fun x hx => .inl (List.mem_append_right _ hx))
  have hbl : ∀ q ∈ hotOf S loc4, q < w4.heap.size ∧ (q ∈ hotOf own loc ++ [l] ∨ w.heap.size ≤ q) := by
   intro q hq
   refine ⟨by rw [hsz4]; exact R4.st.lt q (List.mem_append_left _ hq), ?_⟩
   rcases R4.new q hq with h | h
   ·exact (R'.new q h).imp (fun h => List.mem_append_left _ h) id
   ·exact .inr (Nat.le_trans U2.size h)
  refine ⟨_, w4, hrun, _, rfl, rfl, hotOf S loc4 ++ [l], U4, ?_, ?_, ?_⟩
  ·rw [List.nodup_append]
   exact ⟨R4.st.bl, by simp, fun b hb b' hb' hbb => hl4hot (by simp only [List.mem_singleton] at hb'; rw [← hb', ← hbb]; exact hb)⟩
  ·intro q hq
   rcases List.mem_append.1 hq with hq | hq
   ·exact hbl q hq
   ·simp only [List.mem_singleton] at hq
    subst hq
    exact ⟨by rw [hsz4]; exact hl3lt, .inl (by simp)⟩
  ·intro M' hM'
   have hchain : ∀ e ∈ S, e.r < 1 → curOf own loc e.id e.r = some (loc4 e.id) := by
    intro e he hlt
    obtain ⟨e1, h1, h2, h3, h4⟩ := curOf_some (R4.ver e he hlt)
    have h5 := R'.ver e1 h1 (by show e1.r < 1; omega)
    rw [h2, h3] at h5
    rw [h4]; exact h5
   have hinM : ∀ b ∈ M', b ∈ hotOf S loc4 ++ M0 := by
    intro b hb
    rcases hM' b hb with h | ⟨h1, h2⟩
    ·rcases List.mem_append.1 h with h | h
     ·exact List.mem_append_left _ h
     ·simp only [List.mem_singleton] at h
      subst h
      exact List.mem_append_right _ hlM0
    ·exact List.mem_append_right _ ((hM0 b).2 ⟨h1, fun h => h2 (List.mem_append_left _ h)⟩)
   have hd4 : ∀ (b : Nat) (o : Obj), isD o = true → w3.heap[b]? = some o → w4.heap[b]? = some o := by
    intro b o ho hb
    rw [hoth4 b (fun he => by subst he; rw [hl3] at hb; simp only [Option.some.injEq] at hb; subst hb; simp [isD] at ho)]
    exact hb
   have W4 : ∀ n, Weak (curOf S loc4) (curOf S loc4) (hotOf S loc4 ++ M0) M' w3.heap w4.heap n := fun n =>
    ⟨fun _ _ _ _ h => h, fun b o _ (h1 : isD o = true) h2 => hd4 b o h1 h2, fun b o hb (_ : isD o = true) _ hm => hb (hinM b hm)⟩
   have W5 : Weak (curOf own loc) (curOf S loc4) M M' w.heap w4.heap 1 := by
    refine chain_weak hchain (fun b o hb _ ho => ?_) (fun b hb => ?_)
    ·rw [U4.blk b (Array.getElem?_eq_some_iff.1 ho).1 (fun h => hb (hblM b h))]; exact ho
    ·rcases hM' b hb with h | ⟨h1, _⟩
     ·rcases List.mem_append.1 h with h | h
      ·exact (hbl b h).2.imp (hblM b) id
      ·simp only [List.mem_singleton] at h
       subst h
       exact .inl hlM
     ·exact .inl h1
   refine ⟨rfl, loc4, rfl, R4.st.nd, fun e he => ?_, fun p hp => ?_, hl4, fun e he hlt => ?_⟩
   ·exact ObjOK_weak (W4 _) (Nat.le_refl _) (fun b o hb ho => by rw [hoth4 b (fun h => hl4hot (h ▸ mem_hot he hb))]; exact ho) (R4.st.ok e he)
   ·refine rd_weak W5 _ _ (Nat.le_trans ?_ hsl) (hslot p hp)
    have : ∀ (l : List (Nat × DVal)), p ∈ l → mx p.2 ≤ mxS l := by
     intro l
     induction l with
     | nil => intro h; cases h
     | cons q l ih =>
      intro h
      simp only [mxS]
      rcases List.mem_cons.1 h with rfl | h
      ·omega
      ·have := ih h; omega
    exact this sl hp
   ·obtain ⟨e1, h1, h2, h3, h4⟩ := curOf_some (hchain e he hlt)
    have h5 := hver0 e1 h1 (by omega)
    rw [h2, h3] at h5
    rw [h4]; exact h5
 cases e <;> simp only [RQ] at hq3 <;> simp only [roundPost]
 ·obtain ⟨rfl, hs⟩ := hq3
  exact fin none hs rfl rfl
 ·obtain ⟨rfl, rfl, hs⟩ := hq3
  exact fin _ hs rfl rfl
 ·obtain ⟨rfl, rfl, hs⟩ := hq3
  exact fin _ hs rfl rfl
 ·obtain ⟨rfl, rfl, hs⟩ := hq3
  exact fin _ hs rfl rfl
end Go.Dm
end

section
set_option linter.unusedSectionVars false
/- The data machine, second make, part X: the statement 'for .. := range f', over an iterator that has its contract. -/


set_option linter.unusedSimpArgs false
set_option linter.unusedVariables false
namespace Go.Dm
variable [DMode]

def stopAt (ok : Nat → Bool) : Nat → Option Nat
 | 0 => none
 | n + 1 => match stopAt ok n with
  | some k => some k
  | none => if ok n then none else some n

def ISpec (P : Program) (f : FuncId) (us cs : List DVal) (xs : List (List DVal)) (ok : Nat → Bool) : Prop :=
 ∀ (l : Nat) (A Z : Nat → Abs), (∀ k x, xs[k]? = some x → (∀ j, j < k → ok j = true) → YAt P l (A k) x (ok k) (if ok k then A (k + 1) else Z k)) →
  DSpec P (.func f) (us ++ .pk 0 0 :: cs) [⟨0, 0, .abs (yH l)⟩, ⟨1, 0, .abs (A 0)⟩] (.tup []) [⟨0, 0, .abs (yH l)⟩, ⟨1, 1, .abs (match stopAt ok xs.length with | none => A xs.length | some k => Z k)⟩]

def loopC (P : Program) (c : Code) (idx : List Nat) (nt : Nat) (e0 : Exit) : Tran := fun vs w R => ∀ a : Act, idx.map (fun i => a.tmps.getD i Go.undef) = vs.toList → a.tmps.size = nt →
 c.wpIn (wd none) 0 P (fun e a' w' => e = e0 ∧ (∃ D, a' = { a with defers := { target := .collected D, args := #[] } :: a.defers } ∧ w.heap.size ≤ D ∧ w'.heap[D]? = some (.deferred (some []))) ∧ R (.tuple #[]) w') a w

theorem rdV_idx {cur : Cur} {M : List Nat} {h : Array Obj} {f : Nat → Value} : ∀ {sl : List (Nat × DVal)}, rdV cur M h (sl.map (·.2)) (sl.map fun p => f p.1) → ∀ p ∈ sl, rd cur M h p.2 (f p.1)
 | [], _, p, hp => by cases hp
 | q :: sl, hr, p, hp => by
  simp only [List.map_cons, rdV] at hr
  obtain ⟨v, r, he, h1, h2⟩ := hr
  simp only [List.cons.injEq] at he
  obtain ⟨rfl, rfl⟩ := he
  rcases List.mem_cons.1 hp with rfl | hp
  ·exact h1
  ·exact rdV_idx h2 p hp

theorem loop_spec {P : Program} {gt nt : Nat} {ps : Array Tmp} {assign body : Code} {f : FuncId} {us cs : List DVal} {xs : List (List DVal)} {ok : Nat → Bool} {sl : List (Nat × DVal)} {S Z : Nat → List Ent} {jc : Nat → Code} {T : List Ent} {e0 : Exit}
  (hsl : mxS sl ≤ 1) (hI : ISpec P f us cs xs ok) (hmx : mxL us = 0 ∧ mxL cs = 0) (hgt : (gt, .fn (.func f) us cs) ∈ sl) (hps : ∀ x ∈ xs, x.length = ps.size ∧ mxL x = 0) (hpn : ∀ p ∈ ps.toList, p < nt)
  (round : ∀ k x, xs[k]? = some x → (∀ j, j < k → ok j = true) → ∀ B : Base, B.nt = nt → DW P B assign (RA P nt body (ok k) (if ok k then S (k + 1) else Z k) (jc k)) ⟨putM ps.toList x sl, S k⟩)
  (hT : match stopAt ok xs.length with | none => e0 = .normal ∧ T = S xs.length | some k => (jc k = .ret ∧ e0 = .ret ∨ (∃ id, jc k = .exit id ∧ e0 = .exit id) ∨ (∃ t, jc k = .goto t ∧ e0 = .goto t)) ∧ T = Z k) :
  DSpecG (loopC P (.rangeFunc (.tmp gt) ps assign body) (sl.map (·.1)) nt e0) (sl.map (·.2)) (S 0) (.tup []) T := by
 intro M w loc vs St0 hr a hvs hnt
 have hslot : ∀ p ∈ sl, rd (curOf (S 0) loc) (hotOf (S 0) loc ++ M) w.heap p.2 (a.tmps.getD p.1 Go.undef) := by
  refine rdV_idx (f := fun i => a.tmps.getD i Go.undef) ?_
  rw [← hvs, List.map_map] at hr
  exact hr
 have hg := hslot _ hgt
 simp only [rd] at hg
 obtain ⟨us', cs', hv, hus, hcs⟩ := hg
 refine wpIn_rangeFunc ?_
 intro fn hfn
 obtain ⟨rec, hrec⟩ : ∃ rec : Loop, rec = { state := .ready, pending := none, fn, tmps := a.tmps, params := ps, assign, body, defers := w.heap.size } := ⟨_, rfl⟩
 obtain ⟨W1, hW1⟩ : ∃ W1, W1 = (w.alloc (.deferred (some []))).alloc (.loop rec) := ⟨_, rfl⟩
 obtain ⟨l, hl⟩ : ∃ l, l = w.heap.size + 1 := ⟨_, rfl⟩
 have hsz1 : W1.heap.size = w.heap.size + 2 := by rw [hW1]; simp
 have hold1 : ∀ b, b < w.heap.size → W1.heap[b]? = w.heap[b]? := by
  intro b hb
  rw [hW1]
  simp only [World.alloc, Array.getElem?_push, Array.size_push]
  rw [if_neg (by omega), if_neg (by omega)]
 have hD1 : W1.heap[w.heap.size]? = some (.deferred (some [])) := by
  rw [hW1]; simp only [World.alloc, Array.getElem?_push, Array.size_push]
  rw [if_neg (by omega)]; simp
 have hl1 : W1.heap[l]? = some (.loop rec) := by
  rw [hW1, hl]; simp only [World.alloc, Array.getElem?_push, Array.size_push]
  simp
 have hen := run_enterLoop_outer (P := P) (w := w) fn a.tmps ps assign body
 rw [← hrec, ← hW1, ← hl] at hen
 let A : Nat → Abs := fun k => AbsL sl hsl (S k) a.tmps (S 0) loc l rec
 let Zs : Nat → Abs := fun k => AbsL sl hsl (Z k) a.tmps (S 0) loc l { rec with state := .done, pending := some (jc k) }
 have hy : ∀ k x, xs[k]? = some x → (∀ j, j < k → ok j = true) → YAt P l (A k) x (ok k) (if ok k then A (k + 1) else Zs k) := by
  intro k x hx hj
  have hxm := hps x (List.mem_of_getElem? hx)
  have hY := YAt_of (hsl := hsl) (own := S k) (S := if ok k then S (k + 1) else Z k) (own0 := S 0) (loc0 := loc) (l := l) (L := rec) (tm := a.tmps) (nt := nt) (x := x) (okk := ok k) (j := jc k) (by rw [hrec]) (by rw [hrec]) (by rw [hrec]) hnt (by rw [hrec]; exact hxm.1) (by rw [hrec]; exact hpn) hxm.2 (by rw [hrec]; exact round k x hx hj)
  cases hk : ok k with
  | true =>
   rw [hk] at hY
   have e1 : ({ rec with state := if true = true then .ready else .done, pending := if true = true then none else some (jc k) } : Loop) = rec := by rw [hrec]; rfl
   rw [e1] at hY
   exact hY
  | false =>
   rw [hk] at hY
   exact hY
 have hD := hI l A Zs hy
 have hhotlt : ∀ b ∈ hotOf (S 0) loc, b < w.heap.size := fun b hb => St0.lt b (List.mem_append_left _ hb)
 let loc1 : Nat → Loc := fun i => if i = 0 then ⟨[], .func (.yield l) #[] #[]⟩ else ⟨hotOf (S 0) loc ++ [l], .func (.yield l) #[] #[]⟩
 have hhot1 : hotOf [⟨0, 0, .abs (yH l)⟩, ⟨1, 0, .abs (A 0)⟩] loc1 = hotOf (S 0) loc ++ [l] := by simp [hotOf, loc1]
 have W1w : ∀ n, Weak (curOf (S 0) loc) (curOf (S 0) loc) (hotOf (S 0) loc ++ M) (hotOf (S 0) loc ++ [l] ++ M) w.heap W1.heap n := fun n =>
  ⟨fun _ _ _ _ h => h, fun b o _ (_ : isD o = true) ho => by rw [hold1 b (Array.getElem?_eq_some_iff.1 ho).1]; exact ho, fun b o hb (_ : isD o = true) ho hm => by
   have hlt := (Array.getElem?_eq_some_iff.1 ho).1
   simp only [List.mem_append, List.mem_singleton] at hm hb
   rcases hm with (hm | hm) | hm
   ·exact hb (.inl hm)
   ·omega
   ·exact hb (.inr hm)⟩
 have St1 : St [⟨0, 0, .abs (yH l)⟩, ⟨1, 0, .abs (A 0)⟩] loc1 M W1.heap := by
  refine ⟨by simp, ?_, ?_, ?_, ?_⟩
  ·rw [hhot1, List.nodup_append]
   exact ⟨St0.bl, by simp, fun b hb b' hb' => by simp only [List.mem_singleton] at hb'; have := hhotlt b hb; omega⟩
  ·rw [hhot1]
   intro b hb hm
   rcases List.mem_append.1 hb with hb | hb
   ·exact St0.ap b hb hm
   ·simp only [List.mem_singleton] at hb
    have := St0.lt b (List.mem_append_right _ hm)
    omega
  ·rw [hhot1]
   intro b hb
   simp only [List.mem_append, List.mem_singleton] at hb
   rcases hb with (hb | hb) | hb
   ·have := hhotlt b hb; omega
   ·omega
   ·have := St0.lt b (List.mem_append_right _ hb); omega
  ·intro e he
   simp only [List.mem_cons, List.not_mem_nil, or_false] at he
   rcases he with rfl | rfl
   ·exact ⟨rfl, rfl⟩
   ·refine ⟨rfl, loc, rfl, St0.nd, fun e he => ?_, fun p hp => ?_, hl1, fun e he _ => curOf_self St0.nd he⟩
    ·rw [hhot1]
     exact ObjOK_weak (W1w _) (Nat.le_refl _) (fun b o hb ho => by rw [hold1 b (Array.getElem?_eq_some_iff.1 ho).1]; exact ho) (St0.ok e he)
    ·rw [hhot1]
     exact rd_weak (W1w _) _ _ (Nat.le_refl _) (hslot p hp)
 have W1z : Weak (curOf (S 0) loc) (curOf [⟨0, 0, .abs (yH l)⟩, ⟨1, 0, .abs (A 0)⟩] loc1) (hotOf (S 0) loc ++ M) (hotOf [⟨0, 0, .abs (yH l)⟩, ⟨1, 0, .abs (A 0)⟩] loc1 ++ M) w.heap W1.heap 0 := by
  rw [hhot1]
  exact ⟨fun _ _ _ h => by omega, (W1w 0).b, (W1w 0).m⟩
 have hcall := hD.2.2 M W1 loc1 (us' ++ #[.func (.yield l) #[] #[]] ++ cs') St1 (by
  have e1 : (us' ++ #[Value.func (.yield l) #[] #[]] ++ cs').toList = us'.toList ++ Value.func (.yield l) #[] #[] :: cs'.toList := by simp
  rw [e1]
  refine rdV_append _ _ _ _ (rdV_weak W1z _ _ (Nat.le_of_eq hmx.1) hus) ?_
  simp only [rdV]
  refine ⟨_, _, rfl, ?_, rdV_weak W1z _ _ (Nat.le_of_eq hmx.2) hcs⟩
  simp only [rd]
  intro lc hlc
  have : curOf [⟨0, 0, .abs (yH l)⟩, ⟨1, 0, .abs (A 0)⟩] loc1 0 0 = some (loc1 0) := rfl
  rw [this] at hlc
  simp only [Option.some.injEq] at hlc
  rw [← hlc]
  rfl)
 have hev : a.eval (.tmp gt) = .func (.func f) us' cs' := hv
 refine ⟨l, [{ target := .collected w.heap.size, args := #[] }], W1, { target := .fn (.func f) cs', args := us' ++ #[.func (.yield l) #[] #[]] }, W1, f, us' ++ #[.func (.yield l) #[] #[]] ++ cs', W1, hen, ?_, fun _ _ => trivial, ?_, fun h => by simp [wd] at h, ?_⟩
 ·simp only [resolve, rangeCall, hev]
  simp [Deferred.ofValue, Act.eval]
 ·simp only [invoke]
  exact hcall.1 _ _
 ·refine (calls_wd none _ hcall.2).mono ?_
  rintro e w2 ⟨v, rfl, loc2, S2, hu, hnew, hver, _⟩
  have hk := S2.ok _ (List.mem_cons_of_mem _ List.mem_cons_self)
  have hk0 := S2.ok _ List.mem_cons_self
  have hb0 : (loc2 0).blks = [] := hk0.1
  -- what is known behind, by the loop's state
  have main : ∀ (L : Loop) (T' : List Ent), (AbsL sl hsl T' a.tmps (S 0) loc l L).J (hotOf [⟨0, 0, .abs (yH l)⟩, ⟨1, 1, .abs (match stopAt ok xs.length with | none => A xs.length | some k => Zs k)⟩] loc2 ++ M) (loc2 1).blks (loc2 1).hdr w2.heap → L.state ≠ .busy →
    (Instr.endLoop l).run P w2 = .ok L.pending (w2.putObj l (.loop { L with state := .exhausted })) ∧ (∃ D, ({ a with defers := [{ target := .collected w.heap.size, args := #[] }] ++ a.defers } : Act) = { a with defers := { target := .collected D, args := #[] } :: a.defers } ∧ w.heap.size ≤ D ∧ (w2.putObj l (.loop { L with state := .exhausted })).heap[D]? = some (.deferred (some []))) ∧
    ∃ loc', St T' loc' M (w2.putObj l (.loop { L with state := .exhausted })).heap ∧ Upd (hotOf (S 0) loc) w (w2.putObj l (.loop { L with state := .exhausted })) ∧ (∀ b ∈ hotOf T' loc', b ∈ hotOf (S 0) loc ∨ w.heap.size ≤ b) ∧
     (∀ e ∈ T', e.r < 1 → curOf (S 0) loc e.id e.r = some (loc' e.id)) ∧ rd (curOf T' loc') (hotOf T' loc' ++ M) (w2.putObj l (.loop { L with state := .exhausted })).heap (.tup []) (.tuple #[]) := by
   rintro L T' ⟨_, loc3, hbl, hnd3, hob3, hsl3, hl3, hver3⟩ hbusy
   have hhot2 : hotOf [⟨0, 0, .abs (yH l)⟩, ⟨1, 1, .abs (match stopAt ok xs.length with | none => A xs.length | some k => Zs k)⟩] loc2 = hotOf T' loc3 ++ [l] := by
    simp [hotOf, hb0]
    simpa [hotOf] using hbl
   obtain ⟨w4, hw4⟩ : ∃ w4, w4 = w2.putObj l (.loop { L with state := .exhausted }) := ⟨_, rfl⟩
   rw [← hw4]
   have hrun := run_endLoop (P := P) hl3 hbusy
   rw [← hw4] at hrun
   have hsz4 : w4.heap.size = w2.heap.size := by rw [hw4]; exact putObj_size _ _ _
   have hoth4 : ∀ b, b ≠ l → w4.heap[b]? = w2.heap[b]? := fun b hb => by rw [hw4]; exact World.putObj_heap_other hb
   rw [hhot1] at hu
   have hlhot : l ∉ hotOf T' loc3 := by
    have := S2.bl
    rw [hhot2, List.nodup_append] at this
    exact fun hm => this.2.2 l hm l (by simp) rfl
   refine ⟨hrun, ⟨w.heap.size, rfl, Nat.le_refl _, ?_⟩, loc3, ?_, ?_, ?_, hver3, ?_⟩
   ·rw [hoth4 _ (by omega), hu.blk _ (by omega) (fun h => by
     simp only [List.mem_append, List.mem_singleton] at h
     rcases h with h | h
     ·have := hhotlt _ h; omega
     ·omega)]
    exact hD1
   ·have hsub : ∀ b ∈ hotOf T' loc3, b ∈ hotOf T' loc3 ++ [l] := fun b hb => List.mem_append_left _ hb
    have hd4 : ∀ (b : Nat) (o : Obj), isD o = true → w2.heap[b]? = some o → w4.heap[b]? = some o := by
     intro b o ho hb
     rw [hoth4 b (fun he => by subst he; rw [hl3] at hb; simp only [Option.some.injEq] at hb; subst hb; simp [isD] at ho)]
     exact hb
    refine ⟨hnd3, ?_, fun b hb => S2.ap b (by rw [hhot2]; exact hsub b hb), fun b hb => ?_, fun e he => ?_⟩
    ·have := S2.bl
     rw [hhot2, List.nodup_append] at this
     exact this.1
    ·rw [hsz4]
     refine S2.lt b ?_
     rw [hhot2]
     rcases List.mem_append.1 hb with hb | hb
     ·exact List.mem_append_left _ (hsub b hb)
     ·exact List.mem_append_right _ hb
    ·have h3 := hob3 e he
     rw [hhot2] at h3
     refine ObjOK_weak (n := mxO e.obj) ⟨fun _ _ _ _ h => h, fun b o _ (h1 : isD o = true) h2 => hd4 b o h1 h2, fun b o hb (_ : isD o = true) _ hm => hb ?_⟩ (Nat.le_refl _) (fun b o hb ho => by rw [hoth4 b (fun h => hlhot (h ▸ mem_hot he hb))]; exact ho) h3
     rcases List.mem_append.1 hm with hm | hm
     ·exact List.mem_append_left _ (hsub b hm)
     ·exact List.mem_append_right _ hm
   ·have U1 : Upd (hotOf (S 0) loc) w W1 := ⟨by rw [hW1]; rfl, by rw [hW1]; rfl, by rw [hW1]; rfl, fun _ => by rw [hW1]; exact Nat.le_refl _, by omega, fun b hb _ => hold1 b hb⟩
    have U2 : Upd (hotOf (S 0) loc) w w2 := U1.trans hu (fun x hx => by
     simp only [List.mem_append, List.mem_singleton] at hx
     rcases hx with hx | hx
     ·exact .inl hx
     ·exact .inr (by omega))
    have U3 : Upd [l] w2 w4 := by
     rw [hw4]
     exact ⟨rfl, rfl, rfl, fun _ => Nat.le_refl _, by rw [putObj_size]; exact Nat.le_refl _, fun b _ hb => World.putObj_heap_other (fun h => hb (by simp [h]))⟩
    exact U2.trans U3 (fun x hx => .inr (by simp only [List.mem_singleton] at hx; omega))
   ·intro b hb
    have hbm : b ∈ hotOf [⟨0, 0, .abs (yH l)⟩, ⟨1, 1, .abs (match stopAt ok xs.length with | none => A xs.length | some k => Zs k)⟩] loc2 := by rw [hhot2]; exact List.mem_append_left _ hb
    rcases hnew b hbm with h | h
    ·rw [hhot1] at h
     simp only [List.mem_append, List.mem_singleton] at h
     rcases h with h | h
     ·exact .inl h
     ·exact .inr (by omega)
    ·exact .inr (by omega)
   ·simp only [rd]; exact ⟨#[], rfl, by simp [rdV]⟩
  clear hnew hver
  cases hst : stopAt ok xs.length with
  | none =>
   rw [hst] at hT
   obtain ⟨rfl, rfl⟩ := hT
   have hk' : (A xs.length).J (hotOf [⟨0, 0, .abs (yH l)⟩, ⟨1, 1, .abs (match stopAt ok xs.length with | none => A xs.length | some k => Zs k)⟩] loc2 ++ M) (loc2 1).blks (loc2 1).hdr w2.heap := by
    have h := hk
    simp only [ObjOK] at h
    generalize hF : (match stopAt ok xs.length with | none => A xs.length | some k => Zs k) = F at h ⊢
    rw [hst] at hF
    simp only at hF
    subst hF
    exact h
   obtain ⟨h1, h2, h3⟩ := main rec _ hk' (by rw [hrec]; simp)
   refine ⟨_, _, h1, ?_⟩
   rw [hrec]
   simp only
   rw [hrec] at h2 h3
   exact ⟨trivial, h2, h3⟩
  | some k =>
   rw [hst] at hT
   obtain ⟨hj, rfl⟩ := hT
   have hk' : (Zs k).J (hotOf [⟨0, 0, .abs (yH l)⟩, ⟨1, 1, .abs (match stopAt ok xs.length with | none => A xs.length | some k => Zs k)⟩] loc2 ++ M) (loc2 1).blks (loc2 1).hdr w2.heap := by
    have h := hk
    simp only [ObjOK] at h
    generalize hF : (match stopAt ok xs.length with | none => A xs.length | some k => Zs k) = F at h ⊢
    rw [hst] at hF
    simp only at hF
    subst hF
    exact h
   obtain ⟨h1, h2, h3⟩ := main _ _ hk' (by simp)
   refine ⟨_, _, h1, ?_⟩
   simp only
   rcases hj with ⟨hj, rfl⟩ | ⟨id, hj, rfl⟩ | ⟨t, hj, rfl⟩
   ·rw [hj] at h2 h3 ⊢; exact wpIn_ret ⟨rfl, h2, h3⟩
   ·rw [hj] at h2 h3 ⊢; exact wpIn_exit ⟨rfl, h2, h3⟩
   ·rw [hj] at h2 h3 ⊢; exact wpIn_goto ⟨rfl, h2, h3⟩

theorem DW_rangeFunc {P : Program} {B : Base} {Q : Exit → DS → Prop} {s : DS} {gt nt : Nat} {ps : Array Tmp} {assign body : Code} {f : FuncId} {us cs : List DVal} {xs : List (List DVal)} {ok : Nat → Bool} (ρ ν : List (Nat × Nat)) (sl : List (Nat × DVal)) (S Z : Nat → List Ent) (jc : Nat → Code) (T : List Ent) (e0 : Exit)
  (hI : ISpec P f us cs xs ok) (hB : B.nt = nt ∧ B.ro = none) (hsl : mxS sl ≤ 1) (hmx : mxL us = 0 ∧ mxL cs = 0) (hgt : (gt, .fn (.func f) us cs) ∈ sl) (hps : ∀ x ∈ xs, x.length = ps.size ∧ mxL x = 0) (hpn : ∀ p ∈ ps.toList, p < nt)
  (hpre : outE s.own (phiOf s.own (inRho ρ)) (inRho ρ) = some (S 0) ∧ inOK s.own ρ ∧ (okDs (sl.map fun p => getS s.slots p.1) ∧ wkA ((sl.map fun p => getS s.slots p.1).map (renD (phiOf s.own (inRho ρ)))) (sl.map (·.2))) ∧ (((ρ ++ ν).map (·.1)).Nodup ∧ (ρ.map (·.2)).Nodup))
  (round : ∀ k x, xs[k]? = some x → (∀ j, j < k → ok j = true) → ∀ B : Base, B.nt = nt → DW P B assign (RA P nt body (ok k) (if ok k then S (k + 1) else Z k) (jc k)) ⟨putM ps.toList x sl, S k⟩)
  (hT : match stopAt ok xs.length with | none => e0 = .normal ∧ T = S xs.length | some k => (jc k = .ret ∧ e0 = .ret ∨ (∃ id, jc k = .exit id ∧ e0 = .exit id) ∨ (∃ t, jc k = .goto t ∧ e0 = .goto t)) ∧ T = Z k)
  (hTo : okOs T)
  (hk : ∀ r, match backE (backOf s.own ρ ν r) T with
   | some l => ((frameE s.own ((ρ ++ ν).map (·.1)) ++ l).map (·.id)).Nodup ∧ Q e0 ⟨s.slots, frameE s.own ((ρ ++ ν).map (·.1)) ++ l⟩
   | none => False) : DW P B (.rangeFunc (.tmp gt) ps assign body) Q s := by
 intro a w loc R
 have h := hk (lim B s)
 split at h
 rotate_left
 ·exact h.elim
 rename_i l hl
 obtain ⟨hnd, hQ⟩ := h
 have hC : ∀ vs w (R R' : Value → World → Prop), (∀ v w', R v w' → R' v w') → loopC P (.rangeFunc (.tmp gt) ps assign body) (sl.map (·.1)) nt e0 vs w R → loopC P (.rangeFunc (.tmp gt) ps assign body) (sl.map (·.1)) nt e0 vs w R' :=
  fun vs w R R' h hc a h1 h2 => wpIn_mono (hc a h1 h2) (fun e a' w' ⟨k1, k2, k3⟩ => ⟨k1, k2, h _ _ k3⟩)
 have hS := SpecC_of hC ρ ν (loop_spec hsl hI hmx hgt hps hpn round hT) hpre.1 hpre.2.1 hpre.2.2.1 hpre.2.2.2 hl hTo (by simp [okD, ok3s]) hnd
 have hlim : lim B s = max B.N (max (mxS s.slots) (mxE s.own)) := rfl
 have hw := hS B.M0 w loc ((sl.map fun p => a.tmps.getD p.1 Go.undef).toArray) (by omega) R.st (by
  have key : ∀ l : List (Nat × DVal), rdV (curOf s.own loc) (hotOf s.own loc ++ B.M0) w.heap (l.map fun p => getS s.slots p.1) (l.map fun p => a.tmps.getD p.1 Go.undef) := by
   intro l
   induction l with
   | nil => simp [rdV]
   | cons p l ih => simp only [List.map_cons, rdV]; exact ⟨_, _, rfl, R.sl p.1, ih⟩
  simpa using key sl) a (by simp) (by rw [R.nt]; exact hB.1)
 rw [hB.2]
 refine wpIn_mono hw ?_
 rintro e a' w' ⟨rfl, ⟨D, rfl, hD1, hD2⟩, loc', St', hu, hnew, hver, _⟩
 have R' := R.step (dst := none) (v := Go.undef) (d := .any) (n := lim B s) (by omega) (by omega) (fun i hi => by simp at hi) St' hu hnew hver (by simp [rd])
 refine ⟨_, loc', hQ, ⟨R'.st, R'.upd, R'.new, R'.ver, R'.sl, R'.nt, ?_⟩⟩
 obtain ⟨rs, h1, h2, h3, h4⟩ := R.df
 obtain ⟨rs', g1, g2, g3, g4⟩ := R'.df
 have hrs : ∀ r ∈ rs, r < w.heap.size := fun r hr => (Array.getElem?_eq_some_iff.1 (h3 r hr).1).1
 refine ⟨D :: rs, by simp [h1], ?_, ?_, fun h => absurd hB.2 h⟩
 ·rw [List.nodup_cons]
  exact ⟨fun hm => by have := hrs D hm; omega, h2⟩
 ·intro r hr
  rcases List.mem_cons.1 hr with rfl | hr
  ·refine ⟨hD2, Nat.le_trans B.hnd (Nat.le_trans R.upd.size hD1), fun hm => ?_⟩
   rcases List.mem_append.1 hm with hm | hm
   ·obtain ⟨e, he, hb⟩ := List.mem_flatMap.1 hm
    exact obj_nd (St'.ok e he) _ hb _ hD2
   ·have := R.st.lt r (List.mem_append_right _ hm); omega
  ·obtain ⟨k1, k2, k3⟩ := h3 r hr
   have hlt := hrs r hr
   refine ⟨?_, k2, fun hm => ?_⟩
   ·rw [hu.blk r hlt (fun hm => k3 (List.mem_append_left _ hm))]; exact k1
   ·rcases List.mem_append.1 hm with hm | hm
    ·rcases hnew r hm with h | h
     ·exact k3 (List.mem_append_left _ h)
     ·omega
    ·exact k3 (List.mem_append_right _ hm)

def yOK (own : List Ent) (id r' l : Nat) (A : Abs) : Prop := match findE own id, findE own (id + 1) with
 | some e0, some e => e0.r = r' ∧ e0.obj = .abs (yH l) ∧ e.obj = .abs A
 | _, _ => False
theorem callY_mk {P : Program} {id r' l : Nat} {args : List DVal} {own : List Ent} {K : ContE} {A A' : Abs} {b : Bool} (hY : YAt P l A args b A') (hpre : yOK own id r' l A ∧ mxL args = 0)
  (hk : ∀ r, K.f (.bool b) (upE own (id + 1) r (.abs A'))) : callY P id r' args own K := by
 obtain ⟨h, hm⟩ := hpre
 unfold yOK at h
 split at h
 ·rename_i e0 e h1 h2
  exact ⟨e0, l, e, A, A', b, h1, h.1, h.2.1, h2, h.2.2, hm, hY, hk⟩
 ·exact h.elim

theorem stopAt_some {ok : Nat → Bool} : ∀ {n k : Nat}, k < n → (∀ j, j < k → ok j = true) → ok k = false → stopAt ok n = some k
 | n + 1, k, hk, hj, ho => by
  simp only [stopAt]
  by_cases h : k < n
  ·rw [stopAt_some h hj ho]
  ·have : k = n := by omega
   subst this
   have : stopAt ok k = none := by
    have key : ∀ m, m ≤ k → stopAt ok m = none := by
     intro m
     induction m with
     | zero => intro _; rfl
     | succ m ih => intro hm; simp only [stopAt, ih (by omega), hj m (by omega), if_true]
    exact key k (Nat.le_refl _)
   rw [this, ho]; rfl
theorem stopAt_none {ok : Nat → Bool} : ∀ {n : Nat}, (∀ j, j < n → ok j = true) → stopAt ok n = none
 | 0, _ => rfl
 | n + 1, hj => by simp only [stopAt, stopAt_none (n := n) (fun j h => hj j (by omega)), hj n (by omega), if_true]
attribute [simp] yOK RA RQ putM
end Go.Dm
end

section
set_option linter.unusedSectionVars false
/- occurrences of regular expressions, gone over -/



set_option linter.unusedSimpArgs false
set_option linter.unusedVariables false
namespace Go.Proofs.YtdgocjbakjamaaaGreat
open Go Go.Dm
variable [DMode]
attribute [local irreducible] DW callP callS callY RB Dm.Sub
set_option maxRecDepth 100000

def isOcc (x : Nd) : Bool := decide (x.k = 2) || decide (x.k = 3)
def occAt (l : List Nd) (j : Nat) : Option (Nat × ByteArray) := match l[j]? with
 | some p => if isOcc p = true then some (j, p.s) else none
 | none => none
def occTo (l : List Nd) (n : Nat) : List (Nat × ByteArray) := (List.range n).filterMap (occAt l)
def dOcc (x : Nat × ByteArray) : List DVal := [.int .i64 x.1, .str x.2]
theorem occTo_succ {l : List Nd} {n : Nat} {p : Nd} (h : l[n]? = some p) : occTo l (n + 1) = occTo l n ++ (if isOcc p = true then [(n, p.s)] else []) := by
 simp only [occTo, List.range_succ, List.filterMap_append, List.filterMap_cons, List.filterMap_nil, occAt, h]
 by_cases hp : isOcc p = true <;> simp [hp]
theorem occTo_split {l : List Nd} {n m : Nat} (h : n ≤ m) : ∃ r, occTo l m = occTo l n ++ r := by
 obtain ⟨d, rfl⟩ : ∃ d, m = n + d := ⟨m - n, by omega⟩
 exact ⟨((List.range d).map (n + ·)).filterMap (occAt l), by simp only [occTo, List.range_add, List.filterMap_append]⟩
theorem occTo_at {l : List Nd} {n m : Nat} {p : Nd} (h : l[n]? = some p) (hp : isOcc p = true) (hm : n < m) : (occTo l m)[(occTo l n).length]? = some (n, p.s) := by
 obtain ⟨r, hr⟩ := occTo_split (l := l)  (show n + 1 ≤ m from hm)
 rw [hr, occTo_succ h, if_pos hp]
 simp
theorem occTo_lt {l : List Nd} {n m : Nat} {p : Nd} (h : l[n]? = some p) (hp : isOcc p = true) (hm : n < m) : (occTo l n).length < (occTo l m).length := (List.getElem?_eq_some_iff.1 (occTo_at h hp hm)).1
def anRX5123 : Ann := ⟨[], []⟩
def anRX5123b2 : Ann := ⟨[5], []⟩
theorem cloneN_pure (l : List Nd) : DPure Tryz.prog 123 [dNds l] (dNds l) := by
 match l with
 | [] =>
  refine DPure_sl [] ?_ ?_
  ·refine DPure_introF [7] (fn := Tryz.f123) Tryz.func123 rfl Tryz.call123 (by simp [Tryz.ntmps123]) (by simp [mx, mxR]) ?_
   intro hwf B hnt
   simp only [Tryz.ntmps123] at hnt
   have hA := an_is anRX5123 Tryz.mixed (aj2 @anRX5123.eq_1 Tryz.results123)
   simp only [argS, List.nil_append, dNds, List.map_cons]
   exact go0 aj0 aj0 aj0
  ·refine DPure_introF [7, 5] (fn := Tryz.f123) Tryz.func123 rfl Tryz.call123 (by simp [Tryz.ntmps123]) (by simp [mx, mxR]) ?_
   intro hwf B hnt
   simp only [Tryz.ntmps123] at hnt
   have hA := an_is anRX5123b2 Tryz.mixed (aj2 @anRX5123b2.eq_1 Tryz.results123)
   simp only [argS, List.nil_append, dNds, List.map_cons]
   exact go0 aj0 aj0 aj0
 | s :: l =>
  refine DPure_introF [7, 5] (fn := Tryz.f123) Tryz.func123 rfl Tryz.call123 (by simp [Tryz.ntmps123]) (by simp [mx, mxR]) ?_
  intro hwf B hnt
  simp only [Tryz.ntmps123] at hnt
  have hA := an_is anRX5123b2 Tryz.mixed (aj2 @anRX5123b2.eq_1 Tryz.results123)
  have hsz : (s :: l).length * 32 ≤ 150000000000000 := by have := hwf.1; simp only [wfD, List.length_map] at this; exact this.1
  clear hwf
  have z2 : (s :: l).length ≤ 9223372036854775807 := by omega
  simp only [List.length_cons] at hsz z2
  simp only [argS, List.nil_append, dNds, List.map_cons]
  exact go0 aj0 aj0 (aj2 hsz z2)


def anRX5153 : Ann := ⟨[25], [⟨2, [4], [], []⟩]⟩
set_option maxHeartbeats 1000000 in
theorem names84_spec (l : List Nd) (ok : Nat → Bool) : ISpec Tryz.prog 153 [] [.ref [dNds l]] ((occTo l l.length).map dOcc) ok := by
 intro lb A Z hY
 refine DSpec_intro [] [(0, 0, 0), (1, 1, 1)] (fn := Tryz.f153) Tryz.func153 rfl Tryz.call153 (by simp [Tryz.ntmps153]) (by simp) (by simp) ?_
 intro hwf B hnt
 simp only [Tryz.ntmps153] at hnt
 have hA := an_is anRX5153 Tryz.mixed (aj2 @anRX5153.eq_1 Tryz.results153)
 have hwl : l.length < 9223372036854775807 := len_nds (by simpa [wfL, wfD] using hwf)
 clear hwf
 simp only [argS, List.nil_append]
 (refine go1 aj0 aj0 aj0 ?_; intros; refine mk_i ?_)
 refine DW_loop (X := {k : Nat // k ≤ l.length ∧ ∀ j, j < (occTo l k).length → ok j = true}) (fun k => ⟨[(0, .pk 0 0), (5, dNds l), (6, .int .i64 l.length), (7, .int .i64 k.1)], [⟨0, 0, .abs (yH lb)⟩, ⟨1, 1, .abs (A (occTo l k.1).length)⟩]⟩) (fun k => l.length - k.1) ⟨0, by simp [occTo]⟩ (Sub.lit (by simp [occTo])) ?_
 rintro ⟨k, hk, hj⟩
 by_cases hlt : k < l.length
 ·obtain ⟨p, hp, hp', hpm⟩ := at_lt' hlt
  have hs := occTo_succ hp
  by_cases hh : isOcc p = true
  ·have hx := hY (occTo l k).length (dOcc (k, p.s)) (by rw [List.getElem?_map, occTo_at hp hh hlt]; rfl) hj
   rw [if_pos hh] at hs
   have hkd : p.k = 2 ∨ p.k = 3 := by unfold isOcc at hh; simpa using hh
   have hgo : ∀ j, j < (occTo l (k + 1)).length → ok (occTo l k).length = true → ok j = true := by
    rw [hs]
    intro j hj' hok
    simp at hj'
    by_cases hjk : j = (occTo l k).length
    ·subst hjk; exact hok
    ·exact hj j (by omega)
   rcases hkd with hkd | hkd
   ·(refine go1 aj0 aj0 (aj5 @dNd.eq_1 hlt hp hp' hkd) ?_; intros; refine mk_i ?_)
    cases hok : ok (occTo l k).length
    ·rw [hok] at hx
     refine callY_mk hx (by simp [dOcc]) (fun r => ?_)
     have hst := stopAt_some (occTo_lt hp hh hlt) hj hok
     simp [hnt, Tryz.results153, anRX5153, hst]
     exact go0 aj0 aj0 (aj1 hst)
    ·rw [hok] at hx
     refine callY_mk hx (by simp [dOcc]) (fun r => ?_)
     simp [hnt, Tryz.results153, anRX5153]
     (refine go1 aj0 aj0 aj0 ?_; intros; refine mk_i ?_)
     refine Again.mk ⟨k + 1, by omega, fun j hj' => hgo j hj' hok⟩ (Sub.lit (by simp [hs])) (by simp; omega)
     skip
   ·(refine go1 aj0 aj0 (aj5 @dNd.eq_1 hlt hp hp' hkd) ?_; intros; refine mk_i ?_)
    cases hok : ok (occTo l k).length
    ·rw [hok] at hx
     refine callY_mk hx (by simp [dOcc]) (fun r => ?_)
     have hst := stopAt_some (occTo_lt hp hh hlt) hj hok
     simp [hnt, Tryz.results153, anRX5153, hst]
     exact go0 aj0 aj0 (aj1 hst)
    ·rw [hok] at hx
     refine callY_mk hx (by simp [dOcc]) (fun r => ?_)
     simp [hnt, Tryz.results153, anRX5153]
     (refine go1 aj0 aj0 aj0 ?_; intros; refine mk_i ?_)
     refine Again.mk ⟨k + 1, by omega, fun j hj' => hgo j hj' hok⟩ (Sub.lit (by simp [hs])) (by simp; omega)
     skip
  ·rw [if_neg hh, List.append_nil] at hs
   have h2 : ¬ p.k = 2 := fun e => hh (by unfold isOcc; simp [e])
   have h3 : ¬ p.k = 3 := fun e => hh (by unfold isOcc; simp [e])
   have h2' : (p.k == 2) = false := by simpa using h2
   have h3' : (p.k == 3) = false := by simpa using h3
   (refine go1 aj0 aj0 (aj8 @dNd.eq_1 hlt hp hp' h2 h3 h2' h3') ?_; intros; refine mk_i ?_)
   refine Again.mk ⟨k + 1, by omega, by rw [hs]; exact hj⟩ (Sub.lit (by simp [hs])) (by simp; omega)
   skip
 ·have hkk : k = l.length := by omega
  subst hkk
  have hst := stopAt_none hj
  exact go0 aj0 aj0 (aj1 hst)

def anRX583 : Ann := ⟨[1], [⟨1, [1], [], []⟩]⟩
theorem names41_pure (l : List Nd) : DPure Tryz.prog 83 [dNds l] (.fn (.func 153) [] [.ref [dNds l]]) := by
 refine DPure_introF [] (fn := Tryz.f83) Tryz.func83 rfl Tryz.call83 (by simp [Tryz.ntmps83]) (by simp [mx, mxL]) ?_
 intro hwf B hnt
 simp only [Tryz.ntmps83] at hnt
 have hA := an_is anRX583 Tryz.mixed (aj2 @anRX583.eq_1 Tryz.results83)
 clear hwf
 simp only [argS]
 have h1 := cloneN_pure l
 exact go0 (aj1 h1) aj0 aj0

def occN (l : List Nd) : Nat := (occTo l l.length).length
def anRX521 : Ann := ⟨[], []⟩
set_option maxHeartbeats 1000000 in
theorem occ13_pure (l : List Nd) : DPure Tryz.prog 21 [dNds l] (.int .i64 (occN l)) := by
 refine DPure_introF [] (fn := Tryz.f21) Tryz.func21 rfl Tryz.call21 (by simp [Tryz.ntmps21]) (by simp [mx]) ?_
 intro hwf B hnt
 simp only [Tryz.ntmps21] at hnt
 have hA := an_is anRX521 Tryz.mixed (aj2 @anRX521.eq_1 Tryz.results21)
 have hwl := len_nds hwf.1
 clear hwf
 simp only [argS]
 have h1 := names41_pure l
 (refine go1 (aj1 h1) aj0 aj0 ?_; intros; refine mk_i ?_)
 have hI := names84_spec l (fun _ => true)
 have hst : stopAt (fun _ : Nat => true) (occTo l l.length).length = none := stopAt_none fun _ _ => rfl
 have hocc : ∀ x ∈ (occTo l l.length).map dOcc, x.length = 2 ∧ mxL x = 0 := by
  intro x hx
  obtain ⟨y, _, rfl⟩ := List.mem_map.1 hx
  exact ⟨rfl, by simp [dOcc, mx]⟩
 have hlen : (occTo l l.length).length ≤ l.length := by
  simp only [occTo]
  exact Nat.le_trans (List.length_filterMap_le _ _) (by simp)
 refine DW_rangeFunc (nt := 11) [(3, 3)] [] [(0, dNds l), (3, .bx 3 0 0), (5, .fn (.func 153) [] [.ref [dNds l]])]
  (fun k => [⟨3, 0, .box [.int .i64 (k : Int)]⟩]) (fun k => [⟨3, 0, .box [.int .i64 (k : Int)]⟩]) (fun _ => .ret) [⟨3, 0, .box [.int .i64 (occN l : Int)]⟩] .normal
  hI (by simp [hnt]) (by simp [mxS]) (by simp) (List.mem_of_getElem? (i := 2) rfl) hocc (by simp) ?_ ?_ ?_ ?_ ?_
 ·simp
 ·intro k x hx hj B1 hnt
  rw [List.getElem?_map, Option.map_eq_some_iff] at hx
  obtain ⟨⟨j, s⟩, hy, rfl⟩ := hx
  have hkl : k < (occTo l l.length).length := (List.getElem?_eq_some_iff.1 hy).1
  have hw : IntKind.i64.wrap ((k : Int) + 1) = (k : Int) + 1 := wrap64_in (by omega) (by omega)
  simp only [Array.toList, putM]
  (refine go1 aj0 aj0 aj0 ?_; intros; refine mk_i ?_)
  refine RB_mk fun B2 hnt => ?_
  (refine go1 aj0 aj0 (aj2 @dOcc.eq_1 hw) ?_; intros; refine mk_i ?_)
  refine Sub.lit ?_
  simp
 ·simp only [List.length_map, hst]
  exact ⟨trivial, rfl⟩
 ·simp
 ·intro r
  simp
  exact go0 aj0 aj0 aj0
end Go.Proofs.YtdgocjbakjamaaaGreat
end

section
set_option linter.unusedSectionVars false
/- Orders told by a comparison; the one sorted list: plain Lean. -/

set_option linter.unusedSimpArgs false
set_option linter.unusedVariables false
namespace Go.Proofs.YtdgocjbakjamaaaGreat
open Go Go.Dm
variable [DMode]

structure OrdC {α : Type} (c : α → α → Int) : Prop where
 eq0 : ∀ x y, c x y = 0 ↔ x = y
 anti : ∀ x y, c x y < 0 ↔ 0 < c y x
 trans : ∀ x y z, c x y < 0 → c y z < 0 → c x z < 0
theorem OrdC.refl {α : Type} {c : α → α → Int} (h : OrdC c) (x : α) : c x x = 0 := (h.eq0 x x).2 rfl
theorem OrdC.nle {α : Type} {c : α → α → Int} (h : OrdC c) {x y : α} : ¬ c x y < 0 ↔ c y x < 0 ∨ x = y := by
 have h1 := h.anti x y
 have h2 := h.anti y x
 have h3 := h.eq0 x y
 constructor
 ·intro hn
  by_cases h0 : c x y = 0
  ·exact .inr (h3.1 h0)
  ·exact .inl (h2.2 (by omega))
 ·rintro (h4 | rfl)
  ·have := h2.1 h4; omega
  ·rw [h.refl]; omega
theorem OrdC.ntrans {α : Type} {c : α → α → Int} (h : OrdC c) (x y z : α) (h1 : ¬ c x y < 0) (h2 : ¬ c y z < 0) : ¬ c x z < 0 := by
 rw [h.nle] at *
 rcases h1 with h1 | rfl
 ·rcases h2 with h2 | rfl
  ·exact .inl (h.trans _ _ _ h2 h1)
  ·exact .inl h1
 ·exact h2
theorem OrdC.le_anti {α : Type} {c : α → α → Int} (h : OrdC c) {x y : α} (h1 : ¬ c x y < 0) (h2 : ¬ c y x < 0) : x = y := by
 rcases h.nle.1 h1 with h1 | h1
 ·exact absurd h1 h2
 ·exact h1
theorem OrdC.total {α : Type} {c : α → α → Int} (h : OrdC c) (x y : α) : ¬ c x y < 0 ∨ ¬ c y x < 0 := by
 by_cases h1 : c x y < 0
 ·right; have := (h.anti x y).1 h1; omega
 ·exact .inl h1

theorem ordI : OrdC cmpI := by
 refine ⟨fun x y => ?_, fun x y => ?_, fun x y z => ?_⟩ <;> unfold cmpI
 ·split
  ·constructor <;> intro h <;> omega
  ·split
   ·constructor <;> intro h <;> omega
   ·constructor <;> intro h <;> omega
 ·by_cases h1 : x < y <;> by_cases h2 : y < x <;> simp [h1, h2] <;> omega
 ·by_cases h1 : x < y <;> by_cases h2 : y < z <;> by_cases h3 : x < z <;> simp [h1, h2, h3] <;> (try split) <;> (try split) <;> omega

def lexC {α β : Type} (c : α → α → Int) (d : β → β → Int) (x y : α × β) : Int := if c x.1 y.1 = 0 then d x.2 y.2 else c x.1 y.1
theorem ordLex {α β : Type} {c : α → α → Int} {d : β → β → Int} (h : OrdC c) (k : OrdC d) : OrdC (lexC c d) := by
 refine ⟨fun x y => ?_, fun x y => ?_, fun x y z => ?_⟩ <;> unfold lexC
 ·obtain ⟨x1, x2⟩ := x
  obtain ⟨y1, y2⟩ := y
  simp only [_root_.Prod.mk.injEq]
  split
  ·rename_i h0
   rw [k.eq0]
   exact ⟨fun hh => ⟨(h.eq0 _ _).1 h0, hh⟩, fun hh => hh.2⟩
  ·rename_i h0
   exact ⟨fun hh => absurd hh h0, fun hh => absurd ((h.eq0 _ _).2 hh.1) h0⟩
 ·by_cases h0 : c x.1 y.1 = 0
  ·have h1 : c y.1 x.1 = 0 := (h.eq0 _ _).2 ((h.eq0 _ _).1 h0).symm
   rw [if_pos h0, if_pos h1]; exact k.anti _ _
  ·have h1 : ¬ c y.1 x.1 = 0 := fun hh => h0 ((h.eq0 _ _).2 ((h.eq0 _ _).1 hh).symm)
   rw [if_neg h0, if_neg h1]; exact h.anti _ _
 ·by_cases h0 : c x.1 y.1 = 0
  ·have e0 := (h.eq0 _ _).1 h0
   rw [if_pos h0]
   by_cases h1 : c y.1 z.1 = 0
   ·have e1 := (h.eq0 _ _).1 h1
    have h2 : c x.1 z.1 = 0 := (h.eq0 _ _).2 (e0.trans e1)
    rw [if_pos h1, if_pos h2]; exact k.trans _ _ _
   ·have h2 : ¬ c x.1 z.1 = 0 := by rw [e0]; exact h1
    rw [if_neg h1, if_neg h2, e0]; exact fun _ hh => hh
  ·rw [if_neg h0]
   by_cases h1 : c y.1 z.1 = 0
   ·have e1 := (h.eq0 _ _).1 h1
    have h2 : ¬ c x.1 z.1 = 0 := by rw [← e1]; exact h0
    rw [if_pos h1, if_neg h2, ← e1]; exact fun hh _ => hh
   ·rw [if_neg h1]
    intro h3 h4
    have h5 := h.trans _ _ _ h3 h4
    have h2 : ¬ c x.1 z.1 = 0 := by omega
    rw [if_neg h2]; exact h5
theorem ordKey {α β : Type} {c : α → α → Int} (h : OrdC c) (f : β → α) (hf : ∀ x y, f x = f y → x = y) : OrdC (fun x y => c (f x) (f y)) :=
 ⟨fun x y => by rw [h.eq0]; exact ⟨hf _ _, fun hh => by rw [hh]⟩, fun x y => h.anti _ _, fun x y z => h.trans _ _ _⟩
theorem ordSym : OrdC symC := by
 have h := ordKey (ordLex ordI ordI) (fun s : Sym => ((if s.label then 1 else 0 : Int), s.n)) (by
  rintro ⟨l, n⟩ ⟨l', n'⟩ hh
  simp only [_root_.Prod.mk.injEq] at hh
  obtain ⟨h1, rfl⟩ := hh
  cases l <;> cases l' <;> simp_all)
 have e : symC = fun x y : Sym => lexC cmpI cmpI ((if x.label then 1 else 0 : Int), x.n) ((if y.label then 1 else 0 : Int), y.n) := by
  funext x y
  obtain ⟨l, n⟩ := x
  obtain ⟨l', n'⟩ := y
  cases l <;> cases l' <;> simp [symC, lexC, cmpI]
 rw [e]; exact h
def sortC {α : Type} (c : α → α → Int) (l : List α) : List α := l.mergeSort (fun x y => !decide (c y x < 0))
theorem sortC_perm {α : Type} (c : α → α → Int) (l : List α) : (sortC c l).Perm l := List.mergeSort_perm _ _
theorem sortC_sorted {α : Type} {c : α → α → Int} (h : OrdC c) (l : List α) : (sortC c l).Pairwise (fun x y => ¬ c y x < 0) := by
 have := List.pairwise_mergeSort (le := fun x y => !decide (c y x < 0)) (by
  intro a b d h1 h2
  simp only [Bool.not_eq_true', decide_eq_false_iff_not] at *
  exact h.ntrans _ _ _ h2 h1) (by
  intro a b
  simp only [Bool.or_eq_true, Bool.not_eq_true', decide_eq_false_iff_not]
  exact h.total b a) l
 exact this.imp fun h => by simpa using h
theorem sorted_eq {α : Type} {c : α → α → Int} (h : OrdC c) {a b : List α} (hp : a.Perm b) (ha : a.Pairwise (fun x y => ¬ c y x < 0)) (hb : b.Pairwise (fun x y => ¬ c y x < 0)) : a = b :=
 List.Perm.eq_of_pairwise (le := fun x y => ¬ c y x < 0) (fun x y _ _ h1 h2 => h.le_anti h2 h1) ha hb hp

theorem uniq_rows {α : Type} {c : α → α → Int} (h : OrdC c) {d : α → List DVal} {u : List DVal → α} (hu : ∀ x, u (d x) = x) {l : List α} {L : List (List DVal)} (hp : L.Perm (l.map d)) (hs : L.Pairwise (fun x y => ¬ c (u y) (u x) < 0)) : L = (sortC c l).map d := by
 have h1 : (L.map u).Perm l := by
  have := hp.map u
  rwa [List.map_map, show u ∘ d = id from funext hu, List.map_id] at this
 have h2 : (L.map u).Pairwise (fun x y => ¬ c y x < 0) := by rw [List.pairwise_map]; exact hs
 have h3 := sorted_eq h (h1.trans (sortC_perm c l).symm) h2 (sortC_sorted h l)
 have h4 : L = (L.map u).map d := by
  rw [List.map_map]
  have h5 : ∀ x ∈ L, (d ∘ u) x = id x := by
   intro x hx
   obtain ⟨y, _, rfl⟩ := List.mem_map.1 (hp.mem_iff.1 hx)
   simp [hu]
  rw [List.map_congr_left h5, List.map_id]
 rw [h4, h3]
end Go.Proofs.YtdgocjbakjamaaaGreat
end

section
set_option linter.unusedSectionVars false
/- Sorted once: insertion tells the same as sorting and leaving out what is twice. Plain Lean. -/


set_option linter.unusedSimpArgs false
set_option linter.unusedVariables false
namespace Go.Proofs.YtdgocjbakjamaaaGreat
open Go Go.Dm
variable [DMode]

def insC {α : Type} (c : α → α → Int) : List α → α → List α
 | [], p => [p]
 | x :: l, p => if c x p < 0 then x :: insC c l p else if c p x < 0 then p :: x :: l else x :: l
theorem mem_insC {α : Type} {c : α → α → Int} (h : OrdC c) {p z : α} : ∀ {l : List α}, z ∈ insC c l p ↔ z = p ∨ z ∈ l
 | [] => by simp [insC]
 | x :: l => by
  have ih := mem_insC h (p := p) (z := z) (l := l)
  simp only [insC]
  split
  ·rw [List.mem_cons, ih, List.mem_cons]
   exact ⟨fun hh => by rcases hh with a | a | a <;> simp [a], fun hh => by rcases hh with a | a | a <;> simp [a]⟩
  ·rename_i h1
   split
   ·simp only [List.mem_cons]
   ·rename_i h2
    have := h.le_anti h1 h2
    subst this
    simp only [List.mem_cons]
    exact ⟨.inr, fun hh => by
     rcases hh with a | a
     ·exact .inl a
     ·exact a⟩
def strictC {α : Type} (c : α → α → Int) (l : List α) : Prop := l.Pairwise (fun x y => c x y < 0)
theorem insC_strict {α : Type} {c : α → α → Int} (h : OrdC c) {p : α} : ∀ {l : List α}, strictC c l → strictC c (insC c l p)
 | [], _ => by simp [insC, strictC]
 | x :: l, hs => by
  obtain ⟨h1, h2⟩ := List.pairwise_cons.1 hs
  simp only [insC]
  split
  ·rename_i hx
   refine List.pairwise_cons.2 ⟨fun z hz => ?_, insC_strict h h2⟩
   rcases (mem_insC h).1 hz with rfl | hz
   ·exact hx
   ·exact h1 z hz
  ·split
   ·rename_i hx
    refine List.pairwise_cons.2 ⟨fun z hz => ?_, hs⟩
    rcases List.mem_cons.1 hz with rfl | hz
    ·exact hx
    ·exact h.trans _ _ _ hx (h1 z hz)
   ·exact hs
theorem fold_strict {α : Type} {c : α → α → Int} (h : OrdC c) : ∀ (l a : List α), strictC c a → strictC c (l.foldl (insC c) a) ∧ ∀ z, z ∈ l.foldl (insC c) a ↔ z ∈ l ∨ z ∈ a
 | [], a, ha => ⟨ha, by simp⟩
 | x :: l, a, ha => by
  obtain ⟨h1, h2⟩ := fold_strict h l (insC c a x) (insC_strict h ha)
  refine ⟨h1, fun z => ?_⟩
  rw [List.foldl_cons, h2, mem_insC h, List.mem_cons]
  exact ⟨fun hh => by rcases hh with q | q | q <;> simp [q], fun hh => by rcases hh with (q | q) | q <;> simp [q]⟩
theorem compGo_strict {α : Type} {c : α → α → Int} (h : OrdC c) : ∀ {l : List α} {p : α}, (p :: l).Pairwise (fun x y => ¬ c y x < 0) → strictC c (p :: compGo (fun x y => c x y == 0) p l) ∧ ∀ z, z ∈ p :: compGo (fun x y => c x y == 0) p l ↔ z ∈ p :: l
 | [], p, _ => by simp [compGo, strictC]
 | y :: l, p, hs => by
  obtain ⟨h1, h2⟩ := List.pairwise_cons.1 hs
  obtain ⟨i1, i2⟩ := compGo_strict h h2
  simp only [compGo]
  split
  ·rename_i he
   have : y = p := (h.eq0 _ _).1 (by simpa using he)
   subst this
   exact ⟨i1, fun z => by rw [i2]; simp⟩
  ·rename_i he
   have hne : y ≠ p := fun hh => he (by subst hh; simp [h.refl])
   have hlt : c p y < 0 := by
    rcases h.nle.1 (h1 y List.mem_cons_self) with h3 | h3
    ·exact h3
    ·exact absurd h3 hne
   refine ⟨List.pairwise_cons.2 ⟨fun z hz => ?_, i1⟩, fun z => ?_⟩
   ·obtain ⟨j1, _⟩ := List.pairwise_cons.1 i1
    rcases List.mem_cons.1 hz with rfl | hz
    ·exact hlt
    ·exact h.trans _ _ _ hlt (j1 z hz)
   ·have := i2 z
    rw [List.mem_cons, this]
    simp [List.mem_cons]
theorem compL_strict {α : Type} {c : α → α → Int} (h : OrdC c) {l : List α} (hs : l.Pairwise (fun x y => ¬ c y x < 0)) : strictC c (compL (fun x y => c x y == 0) l) ∧ ∀ z, z ∈ compL (fun x y => c x y == 0) l ↔ z ∈ l := by
 cases l with
 | nil => simp [compL, strictC]
 | cons x l => exact compGo_strict h hs

end Go.Proofs.YtdgocjbakjamaaaGreat
end

section
set_option linter.unusedSectionVars false
/- Boxes: arcs and finals of trees in a row, told by lists and place by place. Plain Lean. -/




set_option linter.unusedSimpArgs false
set_option linter.unusedVariables false
namespace Go.Proofs.YtdgocjbakjamaaaGreat
open Go Go.Dm
variable [DMode]

theorem isOcc_iff {x : Nd} : isOcc x = true ↔ x.k = 2 ∨ x.k = 3 := by unfold isOcc; simp
def rkN (l : List Nd) (p : Nat) : Nat := ((l.take p).filter isOcc).length
def lvs (l : List Nd) : List Nd := l.filter isOcc
theorem rkN_zero (l : List Nd) : rkN l 0 = 0 := by simp [rkN]
theorem rkN_all (l : List Nd) : rkN l l.length = (lvs l).length := by simp [rkN, lvs]
theorem rkN_succ {l : List Nd} {p : Nat} {x : Nd} (h : l[p]? = some x) : rkN l (p + 1) = rkN l p + (if isOcc x = true then 1 else 0) := by
 unfold rkN
 rw [List.take_add_one, h, List.filter_append]
 cases hx : isOcc x <;> simp [hx]
theorem rkN_mono (l : List Nd) {p q : Nat} (h : p ≤ q) : rkN l p ≤ rkN l q := by
 unfold rkN
 obtain ⟨d, rfl⟩ : ∃ d, q = p + d := ⟨q - p, by omega⟩
 rw [List.take_add, List.filter_append, List.length_append]
 omega
theorem rkN_lt {l : List Nd} {p q : Nat} {x : Nd} (h : l[p]? = some x) (hx : isOcc x = true) (hq : p < q) : rkN l p < rkN l q := by
 have h1 := rkN_succ h
 rw [if_pos hx] at h1
 have := rkN_mono l (show p + 1 ≤ q from hq)
 omega
theorem occTo_len {l : List Nd} : ∀ {n : Nat}, n ≤ l.length → (occTo l n).length = rkN l n
 | 0, _ => by simp [occTo, rkN]
 | n + 1, h => by
  have hn : l[n]? = some (l[n]'(by omega)) := List.getElem?_eq_getElem (by omega)
  rw [occTo_succ hn, rkN_succ hn, List.length_append, occTo_len (by omega)]
  cases isOcc l[n] <;> simp
theorem occN_lvs (l : List Nd) : occN l = (lvs l).length := by unfold occN; rw [occTo_len (Nat.le_refl _), rkN_all]

def isPl (l : List Nd) (i : Nat) : Bool := match l[i]? with | some x => isOcc x | none => false
def plN (l : List Nd) (n : Nat) : List Nat := (List.range n).filter (isPl l)
theorem plN_zero (l : List Nd) : plN l 0 = [] := rfl
theorem plN_succ {l : List Nd} {n : Nat} {x : Nd} (h : l[n]? = some x) : plN l (n + 1) = plN l n ++ (if isOcc x = true then [n] else []) := by
 unfold plN
 rw [List.range_succ, List.filter_append]
 have : isPl l n = isOcc x := by unfold isPl; rw [h]
 cases hx : isOcc x <;> simp [this, hx]
theorem isPl_iff {l : List Nd} {i : Nat} : isPl l i = true ↔ ∃ x, l[i]? = some x ∧ isOcc x = true := by
 unfold isPl
 cases l[i]? <;> simp
theorem mem_plN {l : List Nd} {i : Nat} : i ∈ plN l l.length ↔ ∃ x, l[i]? = some x ∧ isOcc x = true := by
 unfold plN
 rw [List.mem_filter, List.mem_range, isPl_iff]
 exact ⟨fun h => h.2, fun h => ⟨(List.getElem?_eq_some_iff.1 h.choose_spec.1).1, h⟩⟩
theorem plN_len {l : List Nd} : ∀ {n : Nat}, n ≤ l.length → (plN l n).length = rkN l n
 | 0, _ => by simp [plN, rkN]
 | n + 1, h => by
  have hn : l[n]? = some (l[n]'(by omega)) := List.getElem?_eq_getElem (by omega)
  rw [plN_succ hn, rkN_succ hn, List.length_append, plN_len (by omega)]
  cases isOcc l[n] <;> simp
theorem plN_rank {l : List Nd} : ∀ {n j p : Nat}, n ≤ l.length → (plN l n)[j]? = some p → rkN l p = j
 | 0, j, p, _, h => by simp [plN] at h
 | n + 1, j, p, hn, h => by
  have hx : l[n]? = some (l[n]'(by omega)) := List.getElem?_eq_getElem (by omega)
  rw [plN_succ hx] at h
  have hl := plN_len (l := l) (n := n) (by omega)
  by_cases hj : j < (plN l n).length
  ·rw [List.getElem?_append_left hj] at h
   exact plN_rank (by omega) h
  ·rw [List.getElem?_append_right (by omega)] at h
   split at h
   ·have : j - (plN l n).length = 0 := by
     rcases Nat.eq_zero_or_pos (j - (plN l n).length) with h0 | h0
     ·exact h0
     ·rw [List.getElem?_eq_none (by simp; omega)] at h; simp at h
    rw [this] at h
    simp at h
    subst h
    omega
   ·simp at h
theorem plN_pw (l : List Nd) (n : Nat) : (plN l n).Pairwise (· < ·) := (List.pairwise_lt_range).filter _

def num (l : List Nd) (ah p : Nat) : Nat := ah + rkN l p + 1
def num2 (l : List Nd) (ah : Nat) (p : Nat × Nat) : Nat × Nat := (num l ah p.1, num l ah p.2)
def nd (l : List Nd) (p : Nat) : Nd := l.getD p ⟨0, ⟨#[]⟩, 0⟩
def prL : Nat → List RT → List (Nat × Nat)
 | _, [] => []
 | ah, t :: ts => (arT t 0).map (num2 (flat t) ah) ++ prL (ah + (lvs (flat t)).length) ts
def fiN : Nat → List RT → List Nat
 | _, [] => []
 | ah, t :: ts => (fiT t 0).map (num (flat t) ah) ++ fiN (ah + (lvs (flat t)).length) ts
def laN : Nat → List RT → List Nat
 | _, [] => []
 | ah, t :: ts => (laT t 0).map (num (flat t) ah) ++ laN (ah + (lvs (flat t)).length) ts
def lvL (ts : List RT) : List Nd := ts.flatMap fun t => lvs (flat t)
def syL (sy : Nd → Sym) (ts : List RT) : List Sym := (lvL ts).map sy
theorem lvL_snoc (ts : List RT) (t : RT) : lvL (ts ++ [t]) = lvL ts ++ lvs (flat t) := by simp [lvL]
theorem prL_snoc (t : RT) : ∀ (ts : List RT) (ah : Nat), prL ah (ts ++ [t]) = prL ah ts ++ (arT t 0).map (num2 (flat t) (ah + (lvL ts).length))
 | [], ah => by simp [prL, lvL]
 | u :: ts, ah => by
  rw [List.cons_append, prL, prL, prL_snoc t ts, List.append_assoc, Nat.add_assoc]
  simp [lvL]
theorem fiN_snoc (t : RT) : ∀ (ts : List RT) (ah : Nat), fiN ah (ts ++ [t]) = fiN ah ts ++ (fiT t 0).map (num (flat t) (ah + (lvL ts).length))
 | [], ah => by simp [fiN, lvL]
 | u :: ts, ah => by
  rw [List.cons_append, fiN, fiN, fiN_snoc t ts, List.append_assoc, Nat.add_assoc]
  simp [lvL]
theorem laN_snoc (t : RT) : ∀ (ts : List RT) (ah : Nat), laN ah (ts ++ [t]) = laN ah ts ++ (laT t 0).map (num (flat t) (ah + (lvL ts).length))
 | [], ah => by simp [laN, lvL]
 | u :: ts, ah => by
  rw [List.cons_append, laN, laN, laN_snoc t ts, List.append_assoc, Nat.add_assoc]
  simp [lvL]

def arcJ (S : List Sym) (p : Nat × Nat) : Arc := ⟨(p.1 : Int), S.getD (p.2 - 1) ⟨false, 0⟩, (p.2 : Int)⟩
def arcsP (sy : Nd → Sym) (ts : List RT) : List Arc := (prL 0 ts ++ (fiN 0 ts).map fun q => (0, q)).map (arcJ (syL sy ts))
theorem lf_of {l : List Nd} {q : Nat} (h : ∃ x, l[q]? = some x ∧ isOcc x = true) : Lf l 0 q := fun y _ hy => by
 obtain ⟨x, hx, hk⟩ := h
 rw [Nat.sub_zero, hx] at hy
 simp only [Option.some.injEq] at hy
 subst hy
 exact isOcc_iff.1 hk
theorem arcC_lex (x y : Arc) : arcC x y = lexC cmpI (lexC symC cmpI) (x.fr, x.sy, x.to) (y.fr, y.sy, y.to) := rfl
theorem ordArc : OrdC arcC := by
 have h := ordLex ordI (ordLex ordSym ordI)
 refine ⟨fun x y => ?_, fun x y => ?_, fun x y z => ?_⟩
 ·rw [arcC_lex, h.eq0]
  cases x; cases y
  simp only [_root_.Prod.mk.injEq, Arc.mk.injEq]
 ·rw [arcC_lex, arcC_lex]; exact h.anti _ _
 ·rw [arcC_lex, arcC_lex, arcC_lex]; exact h.trans _ _ _

def finR : Nat → List RT → List Nat
 | _, [] => []
 | ah, t :: ts => ((plN (flat t) (flat t).length).filter (enT t 0)).map (num (flat t) ah) ++ finR (ah + (lvs (flat t)).length) ts
theorem fin_perm : ∀ (ts : List RT) (ah : Nat), (∀ t ∈ ts, okT t = true) → (laN ah ts).Perm (finR ah ts)
 | [], ah, _ => by simp [laN, finR]
 | t :: ts, ah, hok => by
  rw [laN, finR]
  refine List.Perm.append (List.Perm.map _ ?_) (fin_perm ts _ fun u hu => hok u (List.mem_cons_of_mem _ hu))
  refine (List.perm_ext_iff_of_nodup (la_nodup t 0) (((plN_pw _ _).imp fun h => Nat.ne_of_lt h).filter _)).2 fun q => ?_
  have hokt := hok t List.mem_cons_self
  rw [List.mem_filter, mem_plN]
  constructor
  ·intro h
   obtain ⟨y, hy, hyk⟩ := laT_leaf t 0 q h
   rw [Nat.sub_zero] at hy
   have hq := (⟨y, hy, isOcc_iff.2 hyk⟩ : ∃ x, (flat t)[q]? = some x ∧ isOcc x = true)
   exact ⟨hq, (en_iff t 0 q hokt (lf_of hq)).1 h⟩
  ·rintro ⟨hq, h⟩
   exact (en_iff t 0 q hokt (lf_of hq)).2 h
theorem num_lt {l : List Nd} {ah p q : Nat} (hp : p ∈ plN l l.length) (h : p < q) : num l ah p < num l ah q := by
 obtain ⟨x, hx, hk⟩ := mem_plN.1 hp
 have := rkN_lt hx hk h
 unfold num
 omega
theorem finR_ok : ∀ (ts : List RT) (ah : Nat), (finR ah ts).Pairwise (· < ·) ∧ ∀ q ∈ finR ah ts, ah < q ∧ q ≤ ah + (lvL ts).length
 | [], ah => by simp [finR]
 | t :: ts, ah => by
  obtain ⟨h1, h2⟩ := finR_ok ts (ah + (lvs (flat t)).length)
  have hb : ∀ q ∈ ((plN (flat t) (flat t).length).filter (enT t 0)).map (num (flat t) ah), ah < q ∧ q ≤ ah + (lvs (flat t)).length := by
   intro q hq
   obtain ⟨p, hp, rfl⟩ := List.mem_map.1 hq
   obtain ⟨x, hx, hk⟩ := mem_plN.1 (List.mem_filter.1 hp).1
   have h3 := rkN_lt hx hk (List.getElem?_eq_some_iff.1 hx).1
   rw [rkN_all] at h3
   unfold num
   omega
  have hl : (lvL (t :: ts)).length = (lvs (flat t)).length + (lvL ts).length := by simp [lvL]
  rw [finR]
  refine ⟨List.pairwise_append.2 ⟨?_, h1, ?_⟩, ?_⟩
  ·rw [List.pairwise_map]
   refine List.Pairwise.imp_of_mem ?_ ((plN_pw _ _).filter _)
   intro a b ha _ hab
   exact num_lt (List.mem_filter.1 ha).1 hab
  ·intro a ha b hb'
   have := hb a ha
   have := h2 b hb'
   omega
  ·intro q hq
   rcases List.mem_append.1 hq with hq | hq
   ·have := hb q hq; omega
   ·have := h2 q hq; omega
theorem sort_fin {l l' : List Int} (hp : l.Perm l') (hs : l'.Pairwise (· < ·)) : l.mergeSort (fun x y => decide (x ≤ y)) = l' := by
 have tr : ∀ a b c : Int, decide (a ≤ b) = true → decide (b ≤ c) = true → decide (a ≤ c) = true := fun a b c h1 h2 => by simp only [decide_eq_true_eq] at *; omega
 have to : ∀ a b : Int, (decide (a ≤ b) || decide (b ≤ a)) = true := fun a b => by simp only [Bool.or_eq_true, decide_eq_true_eq]; omega
 refine List.Perm.eq_of_pairwise (le := fun a b => decide (a ≤ b) = true) (fun a b _ _ h1 h2 => ?_) (List.pairwise_mergeSort tr to l) (hs.imp fun h => by simp only [decide_eq_true_eq]; omega) ((List.mergeSort_perm l _).trans hp)
 simp only [decide_eq_true_eq] at h1 h2
 omega
def toI (n : Nat) : Int := (n : Int)
def finsR (ts : List RT) : List Int := (if anyE ts then [0] else []) ++ (finR 0 ts).map toI
theorem fins_law (ts : List RT) (hok : ∀ t ∈ ts, okT t = true) : ((laN 0 ts).map toI ++ (if anyE ts then [0] else [])).mergeSort (fun x y => decide (x ≤ y)) = finsR ts := by
 refine sort_fin ?_ ?_
 ·unfold finsR
  exact List.perm_append_comm.trans (List.Perm.append_left _ ((fin_perm ts 0 hok).map toI))
 ·obtain ⟨h1, h2⟩ := finR_ok ts 0
  have hm : ((finR 0 ts).map toI).Pairwise (· < ·) := by
   rw [List.pairwise_map]
   exact h1.imp fun h => by unfold toI; omega
  unfold finsR
  split
  ·refine List.pairwise_cons.2 ⟨fun q hq => ?_, hm⟩
   obtain ⟨p, hp, rfl⟩ := List.mem_map.1 hq
   have := h2 p hp
   unfold toI
   omega
  ·exact hm
end Go.Proofs.YtdgocjbakjamaaaGreat
end

section
set_option linter.unusedSectionVars false
/- The data machine, second make, part Bl: strings.Builder: a row of one builder, typed, and its own row of bytes. -/


set_option linter.unusedSimpArgs false
set_option linter.unusedVariables false
namespace Go.Dm
variable [DMode]
open Go.Shelf Go.Proofs Go.RowKit

section
variable {P : Program} {B : Base} {s : DS} {a : Act} {w : World} {loc : Nat → Loc}

theorem Rel.newTyped {id n k bs : Nat} {cs : List DVal} {us : List Value} {ty : TypeId} {dst : Option Nat} (R : Rel B s a w loc) (hlim : lim B s ≤ n) (hmx : mxL cs ≤ n) (hdst : ∀ i, dst = some i → i < B.nt)
  (hus : rdV (cu s loc) (hm s loc B.M0) w.heap cs us) (hone : ∀ u ∈ us, u.oneCell' = true) (hk : cs.length = k) (hbs : bs ≤ 150000000000000) :
  Rel B ⟨putS s.slots dst (.rx id n k 0 0), upE s.own id n (.row ty k bs [cs])⟩ (a.put dst (.pointer (some ⟨w.heap.size, 0, none⟩))) (w.alloc (.cells us.toArray ty)) (upL loc id ⟨[w.heap.size], .slice (some ⟨w.heap.size, 0, none⟩) 1 1⟩) := by
 have hw := Upd.alloc' (hotOf s.own loc) w (.cells us.toArray ty)
 have hL : ∀ b, b ∈ (⟨[w.heap.size], .slice (some ⟨w.heap.size, 0, none⟩) 1 1⟩ : Loc).blks → b < (w.alloc (.cells us.toArray ty)).heap.size ∧ ((∃ e ∈ s.own, e.id = id ∧ b ∈ (loc id).blks) ∨ w.heap.size ≤ b) := by
  intro b hb
  simp only [List.mem_singleton] at hb
  subst hb
  exact ⟨by simp, .inr (Nat.le_refl _)⟩
 have W := R.weakUp (obj := .row ty k bs [cs]) hlim hw hL (.inl (Nat.le_refl _))
 have hul := rdV_length _ _ hus
 refine R.up hlim hdst hw (fun b hb _ => by simp only [World.alloc, Array.getElem?_push]; rw [if_neg (by omega)]) hL (.inl (Nat.le_refl _)) ?_ ?_
 ·refine ⟨by simpa using hbs, .inr ⟨w.heap.size, us.toArray, 1, rfl, rfl, heap_alloc_new w _, by simp, by unfold maxLen; omega, by simp; omega, ?_⟩⟩
  have := rdR_of (cur := curOf (upE s.own id n (.row ty k bs [cs])) (upL loc id ⟨[w.heap.size], .slice (some ⟨w.heap.size, 0, none⟩) 1 1⟩)) (M := hotOf (upE s.own id n (.row ty k bs [cs])) (upL loc id ⟨[w.heap.size], .slice (some ⟨w.heap.size, 0, none⟩) 1 1⟩) ++ B.M0) (H := (w.alloc (.cells us.toArray ty)).heap) k [cs] [us] [] rfl (by
   intro i c u hc hu
   cases i with
   | zero =>
    simp only [List.getElem?_cons_zero, Option.some.injEq] at hc hu
    subst hc; subst hu
    exact ⟨hk, rdV_weak W cs us hmx hus, hone⟩
   | succ i => simp at hc)
  simpa using this
 ·simp only [rd]
  intro l hl
  rw [curOf_up] at hl
  simp only [Option.some.injEq] at hl
  subst hl
  exact ⟨_, rfl, by simp⟩

theorem DW_allocT {id i k bs : Nat} {t ty : TypeId} {pos : String} {z : List DVal} {Q : Exit → DS → Prop} (hi : i < B.nt) (hz : tZero P t = some z) (hp : z.all (oneO []) = true) (hk : z.length = k) (hbs : bs ≤ 150000000000000)
  (h : ∀ r, lim B s ≤ r → Q .normal ⟨putS s.slots (some i) (.rx i r k 0 0), upE s.own i r (.row t k bs [z])⟩) : DW P B (.region id #[⟨some i, .alloc t, ty, pos, #[], none⟩] false) Q s := by
 intro a w loc R
 refine wpIn_region ?_
 rw [List.range_eq_range']
 show wpOpsIn _ _ _ _ _ [0] _ _
 simp only [wpOpsIn]
 have hw : Region.wanted (⟨some i, .alloc t, ty, pos, #[], none⟩ : Oper) (yielded #[⟨some i, .alloc t, ty, pos, #[], none⟩] a.tmps) = true := by simp [Region.wanted]
 simp only [List.getElem?_toArray, List.getElem?_cons_zero]
 rw [if_pos hw]
 obtain ⟨zv, hzr, rfl⟩ := tZero_ok (w := w) hz
 have hus : rdV (cu s loc) (hm s loc B.M0) w.heap (zv.cells.toList.map ofV1) zv.cells.toList := rdV_map_ofV1 _
 have hmx : mxL (zv.cells.toList.map ofV1) = 0 := by
  have h1 : ∀ v, mx (ofV1 v) = 0 := by
   intro v
   unfold ofV1
   split <;> (try split) <;> simp [mx]
  generalize zv.cells.toList = l
  induction l with
  | nil => simp [mxL]
  | cons v l ih => simp only [List.map_cons, mxL, h1, ih]; rfl
 have hone := oneO_all R.st (zv.cells.toList.map ofV1) zv.cells.toList (List.all_eq_true.2 fun d hd => oneO_nil (List.all_eq_true.1 hp d hd)) hus
 have R' := R.newTyped (id := i) (n := lim B s) (k := k) (bs := bs) (ty := t) (dst := some i) (Nat.le_refl _) (by omega) (fun j hj => by simp only [Option.some.injEq] at hj; omega) hus hone hk hbs
 have hrun : (execOp a.eval ⟨some i, .alloc t, ty, pos, #[], none⟩).run P w = .ok (.value (.pointer (some ⟨w.heap.size, 0, none⟩))) (w.alloc (.cells zv.cells.toList.toArray t)) := by
  simp [execOp, Instr.alloc, hzr, newVar, newRow]
 exact wp_val (fun c hc => by cases hc) hrun ⟨_, _, h _ (Nat.le_refl _), R'⟩
end

section
variable {P : Program} {ρ : Ren}
theorem lies_same {T n : Nat} (hd : P.depth ≠ 0) (hs : P.cellsOf T ≠ 0) (hn : 1 ≤ n) : liesAt P P.depth T n 0 T 1 = true := by
 obtain ⟨d, hd⟩ : ∃ d, P.depth = d + 1 := ⟨P.depth - 1, by omega⟩
 have h1 : sameLayout P (d + 1) T T = true := by simp [sameLayout]
 rw [hd]
 unfold liesAt
 rw [hd]
 unfold rowAt
 simp [hs, hn, h1]

theorem upd_freeze (w : World) (g n : Nat) : Upd [g] w (w.drew.freeze ⟨g, 0, none⟩ n) := by
 unfold World.freeze
 split
 ·exact Upd.drew _ w
 ·refine ⟨rfl, rfl, rfl, fun _ => Nat.le_succ _, by simp, fun b hb hne => ?_⟩
  simp only [List.mem_singleton] at hne
  simp only [Array.getElem?_modify]
  rw [if_neg (fun h => hne h.symm)]
  rfl

set_option maxHeartbeats 1000000 in
set_option maxRecDepth 100000 in
theorem builderString_some (L : Lays.n169 P ρ) (X : Builder.Extra P ρ) (b g cap : Nat) (p : Value) (cs cur : Array Value) (l : List UInt8) (w : World) (h0 : l ≠ []) (hb : w.heap[b]? = some (.cells cs (ρ.t 72) (0, 0))) (hb1 : cs[1]? = some (.slice (some ⟨g, 0, none⟩) l.length cap))
  (hg : w.heap[g]? = some (.cells cur (ρ.t 5) (0, 0))) (hnc : l.length ≤ cap) (hcm : cap ≤ maxLen) (hcs : cur.size = cap) (htake : cur.toList.take l.length = Lib.byteCells l) :
  Calls P (ρ.f 169) #[.pointer (some ⟨b, 0, none⟩)] w fun e w' => e = .returned (.string ⟨l.toArray⟩) ∧ Upd [g] w w' ∧ w' = w.drew.freeze ⟨g, 0, none⟩ l.length := by
 have hl0 : l.length ≠ 0 := by simpa using h0
 have c1 : w.drew.cell? ⟨b, 1, none⟩ = some (.slice (some ⟨g, 0, none⟩) l.length cap) := by
  have : w.drew.heap[b]? = some (.cells cs (ρ.t 72) (0, 0)) := hb
  rw [Lib.cell_of_heap this]; exact hb1
 have hSD : (Builtin.unsafeSliceData_ #[(ρ.t 37)] (ρ.t 127) #[.slice (some ⟨g, 0, none⟩) l.length cap]).run P w.drew = .ok (.pointer (some ⟨g, 0, none⟩)) w.drew :=
  Lib.run_unsafeSliceData_row _ _ _ _ _ _ (by omega)
 have hUS : (Builtin.unsafeString_ #[(ρ.t 127), (ρ.t 3)] (ρ.t 9) #[.pointer (some ⟨g, 0, none⟩), .int .i64 l.length]).run P w.drew = .ok (.string ⟨l.toArray⟩) (w.drew.freeze ⟨g, 0, none⟩ l.length) := by
  refine Lib.run_unsafeString_row w.drew (ρ.t 127) (ρ.t 3) (ρ.t 9) (ρ.t 5) L.t127 X.cellsByte g cur.size (by have hg' : w.drew.heap[g]? = some (.cells cur (ρ.t 5) (0, 0)) := hg; simp [World.shape?, hg']) l h0 (by omega) (by unfold maxLen at hcm; omega) ?_
  intro j x hx
  have hg' : w.drew.heap[g]? = some (.cells cur (ρ.t 5) (0, 0)) := hg
  have hadd : (⟨g, 0, none⟩ : Addr).add j = ⟨g, j, none⟩ := by unfold Addr.add; split <;> simp_all
  rw [hadd, Lib.cell_of_heap hg']
  have hj : j < l.length := (List.getElem?_eq_some_iff.1 hx).1
  have h2 : (Lib.byteCells l)[j]? = some (.int .u8 x.toNat) := by simp [Lib.byteCells, hx]
  rw [← htake, List.getElem?_take_of_lt hj] at h2
  simpa using h2
 have mixed := L.mixed
 have t72 := L.t72; have a72 := L.a72; have z72 := L.z72; have v72 := L.v72; have u72 := run_underlying L.t72
 have t70 := L.t70; have a70 := L.a70; have z70 := L.z70; have v70 := L.v70; have u70 := run_underlying L.t70
 have t37 := L.t37; have a37 := L.a37; have z37 := L.z37; have v37 := L.v37; have u37 := run_underlying L.t37
 have t127 := L.t127; have a127 := L.a127; have z127 := L.z127; have v127 := L.v127; have u127 := run_underlying L.t127
 have t3 := L.t3; have a3 := L.a3; have z3 := L.z3; have v3 := L.v3; have u3 := run_underlying L.t3
 have t9 := L.t9; have a9 := L.a9; have z9 := L.z9; have v9 := L.v9; have u9 := run_underlying L.t9
 have t5 := X.t5; have a5 := X.a5; have z5 := X.z5; have v5 := X.v5; have u5 := run_underlying X.t5
 go_enter L.f169, Body.n169_ntmps ρ
 go_wp2
 go_region_o
 all_goals (go_wp2; go_ret; exact ⟨rfl, upd_freeze w g l.length, rfl⟩)

theorem bld_cells {cur : Cur} {M : List Nat} {H : Array Obj} {d0 d1 : DVal} {arr : Array Value} (h : rdR cur M H 2 [[d0, d1]] arr 0) : ∃ v0 v1 rest, arr = (v0 :: v1 :: rest).toArray ∧ rd cur M H d0 v0 ∧ rd cur M H d1 v1 := by
 obtain ⟨rows, r1, r2, r3, r4⟩ := rdR_vals 2 _ arr 0 h
 match rows, r1 with
 | [us], _ =>
  obtain ⟨g1, g2, g3⟩ := r3 0 _ _ rfl rfl
  simp only [rdV] at g2
  obtain ⟨v0, r, rfl, h0, v1, r', rfl, h1, rfl⟩ := g2
  have e0 := (r4 0 v0 (by simp)).1
  have e1 := (r4 1 v1 (by simp)).1
  obtain ⟨l⟩ := arr
  match l, e0, e1 with
  | x :: y :: rest, e0, e1 =>
   simp at e0 e1
   subst e0; subst e1
   exact ⟨x, y, rest, rfl, h0, h1⟩
theorem bld_rdR {cur : Cur} {M : List Nat} {H : Array Obj} {d0 d1 : DVal} {v0 v1 : Value} {rest : List Value} (h0 : rd cur M H d0 v0) (h1 : rd cur M H d1 v1) (o0 : v0.oneCell' = true) (o1 : v1.oneCell' = true) : rdR cur M H 2 [[d0, d1]] (v0 :: v1 :: rest).toArray 0 := by
 have := rdR_of (cur := cur) (M := M) (H := H) 2 [[d0, d1]] [[v0, v1]] rest rfl (by
  intro i c u hc hu
  cases i with
  | zero =>
   simp only [List.getElem?_cons_zero, Option.some.injEq] at hc hu
   subst hc; subst hu
   exact ⟨rfl, ⟨v0, _, rfl, h0, v1, _, rfl, h1, rfl⟩, by simp [o0, o1]⟩
  | succ i => simp at hc)
 simpa using this

theorem copyCheck_spec1 {g T : Nat} (hd : P.depth ≠ 0) (hs : P.cellsOf T = 2) (hE : Enters P g) (bs : Nat)
  (hcc : ∀ (b n : Nat) (w : World), w.cell? ⟨b, 0, none⟩ = some (.pointer none) → w.shape? b = some (T, n) → 0 < n → liesAt P P.depth T (n / P.cellsOf T) 0 T 1 = true → w.frozen? ⟨b, 0, none⟩ = false →
   Calls P g #[.pointer (some ⟨b, 0, none⟩)] w fun e w' => e = .returned (.tuple #[]) ∧ w' = w.setCell ⟨b, 0, none⟩ (.pointer (some ⟨b, 0, none⟩))) :
  DSpec P (.func g) [.rx 0 0 2 0 0] [⟨0, 0, .row T 2 bs [[.nilp, .nilsl]]⟩] (.tup []) [⟨0, 0, .row T 2 bs [[.rx 0 0 2 0 0, .nilsl]]⟩] := by
 refine ⟨by simp, hE, fun M w loc vs S hvs => ?_⟩
 have hk := S.ok _ (List.mem_singleton.2 rfl)
 obtain ⟨hbs, hk⟩ := hk
 rcases hk with ⟨h, _⟩ | ⟨b, arr, cap, h1, h2, h3, h4, h5, h6, h7⟩
 ·simp at h
 ·obtain ⟨v0, v1, rest, rfl, g0, g1⟩ := bld_cells h7
  simp only [rd] at g0 g1
  subst g0; subst g1
  have hcur : curOf [(⟨0, 0, .row T 2 bs [[.nilp, .nilsl]]⟩ : Ent)] loc 0 0 = some (loc 0) := by simp [curOf, findE]
  simp only [rdV, rd] at hvs
  obtain ⟨pv, r, hvs, hp, rfl⟩ := hvs
  obtain ⟨b', hb', rfl⟩ := hp _ hcur
  simp only at h1 h2
  rw [h1] at hb'
  simp only [List.cons.injEq, and_true] at hb'
  subst hb'
  have hvs' : vs = #[.pointer (some ⟨b, 0, none⟩)] := by apply Array.ext'; simpa using hvs
  subst hvs'
  have hsz : 2 ≤ (Array.size (Value.pointer none :: Value.slice none 0 0 :: rest).toArray) := by simp
  refine ⟨hE, (hcc b (rest.length + 2) w (by rw [Lib.cell_of_heap h3]; rfl) (by simp [World.shape?, h3]) (by omega) (lies_same hd (by omega) (by rw [hs]; omega)) (Lib.frozen_of_heap h3 0)).mono ?_⟩
  rintro e w' ⟨rfl, rfl⟩
  refine ⟨_, rfl, loc, ?_, ?_, ?_, ?_, ?_⟩
  ·have hset := setCell_eq_setRow w b 0 _ _ _ (.pointer (some ⟨b, 0, none⟩)) h3
   rw [hset]
   refine ⟨S.nd, S.bl, S.ap, fun q hq => by have := S.lt q hq; simpa using this, fun e he => ?_⟩
   simp only [List.mem_singleton] at he
   subst he
   refine ⟨hbs, .inr ⟨b, _, cap, h1, h2, setRow_heap w b _ _ _ (0, 0) h3, h4, h5, by simpa using h6, ?_⟩⟩
   have := bld_rdR (cur := curOf [(⟨0, 0, .row T 2 bs [[.rx 0 0 2 0 0, .nilsl]]⟩ : Ent)] loc) (M := hotOf [(⟨0, 0, .row T 2 bs [[.rx 0 0 2 0 0, .nilsl]]⟩ : Ent)] loc ++ M) (H := (w.setRow b ((Value.pointer none :: Value.slice none 0 0 :: rest).toArray.setIfInBounds 0 (.pointer (some ⟨b, 0, none⟩)))).heap)
    (d0 := .rx 0 0 2 0 0) (d1 := .nilsl) (v0 := .pointer (some ⟨b, 0, none⟩)) (v1 := .slice none 0 0) (rest := rest) (by
     simp only [rd]
     intro l hl
     have hc2 : curOf [(⟨0, 0, .row T 2 bs [[.rx 0 0 2 0 0, .nilsl]]⟩ : Ent)] loc 0 0 = some (loc 0) := by simp [curOf, findE]
     rw [hc2] at hl
     simp only [Option.some.injEq] at hl
     subst hl
     exact ⟨b, h1, by simp⟩) (by simp [rd]) rfl rfl
   simpa using this
  ·refine ⟨rfl, rfl, rfl, fun _ => Nat.le_refl _, by simp [World.setCell], fun q hq hne => ?_⟩
   have hqb : b ≠ q := by
    intro h
    subst h
    exact hne (by simp [hotOf, h1])
   simp [World.setCell, Array.getElem?_modify, hqb]
  ·intro q hq
   exact .inl hq
  ·intro e he _
   simp only [List.mem_singleton] at he
   subst he
   exact hcur
  ·simp [rd, rdV]
theorem copyCheck_spec2 {g T : Nat} (hE : Enters P g) (bs : Nat) (q : DVal) (rest : List Ent) (hr : ∀ e ∈ rest, e.r = 0)
  (hcc : ∀ (b : Nat) (w : World), w.cell? ⟨b, 0, none⟩ = some (.pointer (some ⟨b, 0, none⟩)) → Calls P g #[.pointer (some ⟨b, 0, none⟩)] w fun e w' => e = .returned (.tuple #[]) ∧ w' = w) :
  DSpec P (.func g) [.rx 0 0 2 0 0] (⟨0, 0, .row T 2 bs [[.rx 0 0 2 0 0, q]]⟩ :: rest) (.tup []) (⟨0, 0, .row T 2 bs [[.rx 0 0 2 0 0, q]]⟩ :: rest) := by
 refine ⟨fun e he => by rcases List.mem_cons.1 he with rfl | he <;> simp_all, hE, fun M w loc vs S hvs => ?_⟩
 have hk := S.ok _ List.mem_cons_self
 obtain ⟨hbs, hk⟩ := hk
 rcases hk with ⟨h, _⟩ | ⟨b, arr, cap, h1, h2, h3, h4, h5, h6, h7⟩
 ·simp at h
 ·obtain ⟨v0, v1, rs, rfl, g0, g1⟩ := bld_cells h7
  simp only [rd] at g0
  have hcur : curOf ((⟨0, 0, .row T 2 bs [[.rx 0 0 2 0 0, q]]⟩ : Ent) :: rest) loc 0 0 = some (loc 0) := by simp [curOf, findE]
  obtain ⟨b0, hb0, rfl⟩ := g0 _ hcur
  simp only [rdV, rd] at hvs
  obtain ⟨pv, r, hvs, hp, rfl⟩ := hvs
  obtain ⟨b', hb', rfl⟩ := hp _ hcur
  simp only at h1 h2
  rw [h1] at hb' hb0
  simp only [List.cons.injEq, and_true] at hb' hb0
  subst hb'; subst hb0
  have hvs' : vs = #[.pointer (some ⟨b, 0, none⟩)] := by apply Array.ext'; simpa using hvs
  subst hvs'
  refine ⟨hE, (hcc b w (by rw [Lib.cell_of_heap h3]; rfl)).mono ?_⟩
  rintro e w' ⟨rfl, rfl⟩
  refine ⟨_, rfl, loc, S, Upd.refl _ _, fun q hq => .inl hq, fun e he _ => curOf_self S.nd he, by simp [rd, rdV]⟩

theorem builderString_spec2 (L : Lays.n169 P ρ) (X : Builder.Extra P ρ) (hE : Enters P (ρ.f 169)) (bs : Nat) (x : ByteArray) (hx : x.size ≠ 0) :
  DSpec P (.func (ρ.f 169)) [.rx 0 0 2 0 0] [⟨0, 0, .row (ρ.t 72) 2 bs [[.rx 0 0 2 0 0, .osl 1 0]]⟩, ⟨1, 0, .row (ρ.t 5) 1 1 (bytesD x)⟩] (.str x) [] := by
 refine ⟨by simp, hE, fun M w loc vs S hvs => ?_⟩
 have hk := S.ok _ List.mem_cons_self
 have hk2 := S.ok _ (List.mem_cons_of_mem _ List.mem_cons_self)
 obtain ⟨hbs, hk⟩ := hk
 obtain ⟨hbs2, hk2⟩ := hk2
 rcases hk with ⟨h, _⟩ | ⟨b, arr, cap, h1, h2, h3, h4, h5, h6, h7⟩
 ·simp at h
 rcases hk2 with ⟨h, _⟩ | ⟨g, cur, cap2, k1, k2, k3, k4, k5, k6, k7⟩
 ·have := congrArg List.length h
  rw [bytesD_len] at this
  exact absurd this hx
 ·obtain ⟨v0, v1, rest, rfl, g0, g1⟩ := bld_cells h7
  simp only [rd] at g0 g1
  have hcur : curOf [(⟨0, 0, .row (ρ.t 72) 2 bs [[.rx 0 0 2 0 0, .osl 1 0]]⟩ : Ent), ⟨1, 0, .row (ρ.t 5) 1 1 (bytesD x)⟩] loc 0 0 = some (loc 0) := by simp [curOf, findE]
  have hcur1 : curOf [(⟨0, 0, .row (ρ.t 72) 2 bs [[.rx 0 0 2 0 0, .osl 1 0]]⟩ : Ent), ⟨1, 0, .row (ρ.t 5) 1 1 (bytesD x)⟩] loc 1 0 = some (loc 1) := by simp [curOf, findE]
  have hv1 := g1 _ hcur1
  simp only at k1 k2
  rw [k2, bytesD_len] at hv1
  subst hv1
  simp only [rdV, rd] at hvs
  obtain ⟨pv, r, hvs, hp, rfl⟩ := hvs
  obtain ⟨b', hb', rfl⟩ := hp _ hcur
  simp only at h1 h2
  rw [h1] at hb'
  simp only [List.cons.injEq, and_true] at hb'
  subst hb'
  have hvs' : vs = #[.pointer (some ⟨b, 0, none⟩)] := by apply Array.ext'; simpa using hvs
  subst hvs'
  have hxl : x.data.toList.length = x.size := rfl
  obtain ⟨rows, r1, r2, r3, r4⟩ := rdR_vals 1 _ cur 0 k7
  have hfl : rows.flatten = Lib.byteCells x.data.toList := by
   have : ∀ (bl : List UInt8) (rows : List (List Value)), rows.length = bl.length → (∀ (i : Nat) (cs : List DVal) (us : List Value), (bl.map fun b => [DVal.int .u8 (b.toNat : Int)])[i]? = some cs → rows[i]? = some us → cs.length = 1 ∧ rdV (curOf [(⟨0, 0, .row (ρ.t 72) 2 bs [[.rx 0 0 2 0 0, .osl 1 0]]⟩ : Ent), ⟨1, 0, .row (ρ.t 5) 1 1 (bytesD x)⟩] loc) (hotOf [(⟨0, 0, .row (ρ.t 72) 2 bs [[.rx 0 0 2 0 0, .osl 1 0]]⟩ : Ent), ⟨1, 0, .row (ρ.t 5) 1 1 (bytesD x)⟩] loc ++ M) w.heap cs us ∧ ∀ u ∈ us, u.oneCell' = true) → rows.flatten = Lib.byteCells bl := by
    intro bl
    induction bl with
    | nil => intro rows hl _; rw [List.eq_nil_of_length_eq_zero hl]; rfl
    | cons y bl ih =>
     intro rows hl h
     match rows, hl with
     | us :: rows, hl =>
      obtain ⟨_, h1, _⟩ := h 0 _ _ rfl rfl
      simp only [rdV, rd] at h1
      obtain ⟨v, r, rfl, ⟨rfl, _⟩, rfl⟩ := h1
      have := ih rows (by simpa using hl) fun i cs us hc hu => h (i + 1) cs us (by simpa using hc) (by simpa using hu)
      simp [this, Lib.byteCells]
   exact this x.data.toList rows (by rw [r1, bytesD_len]; rfl) r3
  rw [bytesD_len] at k4 r2
  have hcsz : cur.size = cap2 := by omega
  have ht := take_flat r2 r4 (by omega)
  rw [hfl, Nat.mul_one] at ht
  refine ⟨hE, (builderString_some L X b g cap2 v0 _ cur x.data.toList w (fun h => hx (by rw [← hxl, h]; rfl)) h3 rfl k3 k4 k5 hcsz ht).mono ?_⟩
  rintro e w' ⟨rfl, hu, _⟩
  refine ⟨_, rfl, loc, ⟨by simp, by simp [hotOf], by simp [hotOf], fun q hq => ?_, by simp⟩, ?_, by simp [hotOf], by simp, ?_⟩
  ·have := S.lt q (List.mem_append_right _ (by simpa [hotOf] using hq))
   exact Nat.lt_of_lt_of_le this hu.size
  ·refine ⟨hu.os, hu.tape, hu.output, hu.drawn, hu.size, fun q hq hne => hu.blk q hq fun hm => hne ?_⟩
   simp only [List.mem_singleton] at hm
   subst hm
   simp [hotOf, k1]
  ·simp only [rd]
   exact ⟨trivial, by omega⟩
theorem builderString_spec2k (L : Lays.n169 P ρ) (X : Builder.Extra P ρ) (hE : Enters P (ρ.f 169)) (bs : Nat) (x : ByteArray) (hx : x.size ≠ 0) :
  DSpec P (.func (ρ.f 169)) [.rx 0 0 2 0 0] [⟨0, 0, .row (ρ.t 72) 2 bs [[.rx 0 0 2 0 0, .osl 1 0]]⟩, ⟨1, 0, .row (ρ.t 5) 1 1 (bytesD x)⟩] (.str x) [⟨0, 0, .row (ρ.t 72) 2 bs [[.rx 0 0 2 0 0, .sl 1 1 (bytesD x)]]⟩] := by
 refine ⟨by simp, hE, fun M w loc vs S hvs => ?_⟩
 have hk := S.ok _ List.mem_cons_self
 have hk2 := S.ok _ (List.mem_cons_of_mem _ List.mem_cons_self)
 obtain ⟨hbs, hk⟩ := hk
 obtain ⟨hbs2, hk2⟩ := hk2
 rcases hk with ⟨h, _⟩ | ⟨b, arr, cap, h1, h2, h3, h4, h5, h6, h7⟩
 ·simp at h
 rcases hk2 with ⟨h, _⟩ | ⟨g, cur, cap2, k1, k2, k3, k4, k5, k6, k7⟩
 ·have := congrArg List.length h
  rw [bytesD_len] at this
  exact absurd this hx
 ·obtain ⟨v0, v1, rest, rfl, g0, g1⟩ := bld_cells h7
  simp only [rd] at g0 g1
  have hcur : curOf [(⟨0, 0, .row (ρ.t 72) 2 bs [[.rx 0 0 2 0 0, .osl 1 0]]⟩ : Ent), ⟨1, 0, .row (ρ.t 5) 1 1 (bytesD x)⟩] loc 0 0 = some (loc 0) := by simp [curOf, findE]
  have hcur1 : curOf [(⟨0, 0, .row (ρ.t 72) 2 bs [[.rx 0 0 2 0 0, .osl 1 0]]⟩ : Ent), ⟨1, 0, .row (ρ.t 5) 1 1 (bytesD x)⟩] loc 1 0 = some (loc 1) := by simp [curOf, findE]
  have hv1 := g1 _ hcur1
  simp only at k1 k2
  rw [k2, bytesD_len] at hv1
  subst hv1
  simp only [rdV, rd] at hvs
  obtain ⟨pv, r, hvs, hp, rfl⟩ := hvs
  obtain ⟨b', hb', rfl⟩ := hp _ hcur
  simp only at h1 h2
  rw [h1] at hb'
  simp only [List.cons.injEq, and_true] at hb'
  subst hb'
  have hvs' : vs = #[.pointer (some ⟨b, 0, none⟩)] := by apply Array.ext'; simpa using hvs
  subst hvs'
  have hxl : x.data.toList.length = x.size := rfl
  obtain ⟨rows, r1, r2, r3, r4⟩ := rdR_vals 1 _ cur 0 k7
  have hfl : rows.flatten = Lib.byteCells x.data.toList := by
   have : ∀ (bl : List UInt8) (rows : List (List Value)), rows.length = bl.length → (∀ (i : Nat) (cs : List DVal) (us : List Value), (bl.map fun b => [DVal.int .u8 (b.toNat : Int)])[i]? = some cs → rows[i]? = some us → cs.length = 1 ∧ rdV (curOf [(⟨0, 0, .row (ρ.t 72) 2 bs [[.rx 0 0 2 0 0, .osl 1 0]]⟩ : Ent), ⟨1, 0, .row (ρ.t 5) 1 1 (bytesD x)⟩] loc) (hotOf [(⟨0, 0, .row (ρ.t 72) 2 bs [[.rx 0 0 2 0 0, .osl 1 0]]⟩ : Ent), ⟨1, 0, .row (ρ.t 5) 1 1 (bytesD x)⟩] loc ++ M) w.heap cs us ∧ ∀ u ∈ us, u.oneCell' = true) → rows.flatten = Lib.byteCells bl := by
    intro bl
    induction bl with
    | nil => intro rows hl _; rw [List.eq_nil_of_length_eq_zero hl]; rfl
    | cons y bl ih =>
     intro rows hl h
     match rows, hl with
     | us :: rows, hl =>
      obtain ⟨_, h1, _⟩ := h 0 _ _ rfl rfl
      simp only [rdV, rd] at h1
      obtain ⟨v, r, rfl, ⟨rfl, _⟩, rfl⟩ := h1
      have := ih rows (by simpa using hl) fun i cs us hc hu => h (i + 1) cs us (by simpa using hc) (by simpa using hu)
      simp [this, Lib.byteCells]
   exact this x.data.toList rows (by rw [r1, bytesD_len]; rfl) r3
  rw [bytesD_len] at k4 r2
  have hcsz : cur.size = cap2 := by omega
  have ht := take_flat r2 r4 (by omega)
  rw [hfl, Nat.mul_one] at ht
  refine ⟨hE, (builderString_some L X b g cap2 v0 _ cur x.data.toList w (fun h => hx (by rw [← hxl, h]; rfl)) h3 rfl k3 k4 k5 hcsz ht).mono ?_⟩
  rintro e w' ⟨rfl, hu, hw⟩
  have hv0 := g0 _ hcur
  obtain ⟨b2, hb2, rfl⟩ := hv0
  rw [h1] at hb2
  simp only [List.cons.injEq, and_true] at hb2
  subst hb2
  have hbl := S.bl
  have hap := S.ap
  simp only [hotOf, List.flatMap_cons, List.flatMap_nil, h1, k1, List.append_nil, List.cons_append, List.nil_append, List.nodup_cons, List.mem_singleton] at hbl
  have hbg : b ≠ g := hbl.1
  have hbM : b ∉ M := hap b (by simp [hotOf, h1])
  have hgM : g ∉ M := hap g (by simp [hotOf, k1])
  have hblt := (Array.getElem?_eq_some_iff.1 h3).1
  have hglt := (Array.getElem?_eq_some_iff.1 k3).1
  have hH : hotOf [(⟨0, 0, .row (ρ.t 72) 2 bs [[.rx 0 0 2 0 0, .sl 1 1 (bytesD x)]]⟩ : Ent)] loc = [b] := by simp [hotOf, h1]
  have hhb : w'.heap[b]? = some (.cells (Value.pointer (some ⟨b, 0 * 2 + 0, none⟩) :: .slice (some ⟨g, 0, none⟩) x.size cap2 :: rest).toArray (ρ.t 72) (0, 0)) := by rw [hu.blk b hblt (by simpa using hbg)]; exact h3
  have hhg : ∃ fz, w'.heap[g]? = some (.cells cur (ρ.t 5) fz) := by
   rw [hw]
   unfold World.freeze
   rw [if_neg (by rw [hxl]; exact hx)]
   have : w.drew.heap[g]? = some (.cells cur (ρ.t 5) (0, 0)) := k3
   simp only [Array.getElem?_modify, if_true, this]
   exact ⟨_, rfl⟩
  have W : Weak (curOf [(⟨0, 0, .row (ρ.t 72) 2 bs [[.rx 0 0 2 0 0, .osl 1 0]]⟩ : Ent), ⟨1, 0, .row (ρ.t 5) 1 1 (bytesD x)⟩] loc) (curOf [(⟨0, 0, .row (ρ.t 72) 2 bs [[.rx 0 0 2 0 0, .sl 1 1 (bytesD x)]]⟩ : Ent)] loc) (hotOf [(⟨0, 0, .row (ρ.t 72) 2 bs [[.rx 0 0 2 0 0, .osl 1 0]]⟩ : Ent), ⟨1, 0, .row (ρ.t 5) 1 1 (bytesD x)⟩] loc ++ M) ([b] ++ M) w.heap w'.heap 0 := by
   refine ⟨fun id r l hr _ => absurd hr (Nat.not_lt_zero _), fun q o hq _ ho => ?_, fun q o hq _ _ hm => hq ?_⟩
   ·rw [hu.blk q (Array.getElem?_eq_some_iff.1 ho).1 (fun hm => hq ?_)]
    ·exact ho
    ·simp only [List.mem_singleton] at hm
     subst hm
     simp [hotOf, k1]
   ·rcases List.mem_append.1 hm with hm | hm
    ·simp only [List.mem_singleton] at hm
     subst hm
     simp [hotOf, h1]
    ·exact List.mem_append_right _ hm
  refine ⟨_, rfl, loc, ⟨by simp, by rw [hH]; simp, fun q hq => ?_, fun q hq => ?_, ?_⟩, ?_, fun q hq => ?_, ?_, ?_⟩
  ·rw [hH] at hq; simp only [List.mem_singleton] at hq; subst hq; exact hbM
  ·rw [hH] at hq
   refine Nat.lt_of_lt_of_le (S.lt q ?_) hu.size
   rcases List.mem_append.1 hq with hq | hq
   ·simp only [List.mem_singleton] at hq; subst hq; simp [hotOf, h1]
   ·exact List.mem_append_right _ hq
  ·intro e he
   simp only [List.mem_singleton] at he
   subst he
   rw [hH]
   refine ⟨by simpa using hbs, .inr ⟨b, _, cap, h1, by simpa using h2, hhb, by simpa using h4, h5, h6, bld_rdR ?_ ?_ rfl rfl⟩⟩
   ·simp only [rd]
    intro l hl
    have : curOf [(⟨0, 0, .row (ρ.t 72) 2 bs [[.rx 0 0 2 0 0, .sl 1 1 (bytesD x)]]⟩ : Ent)] loc 0 0 = some (loc 0) := by simp [curOf, findE]
    rw [this] at hl
    simp only [Option.some.injEq] at hl
    subst hl
    exact ⟨b, h1, rfl⟩
   ·simp only [rd]
    obtain ⟨fz, hfz⟩ := hhg
    rw [bytesD_len]
    exact ⟨_, _, rfl, by simpa [bytesD_len] using k4, k5, by simpa [bytesD_len] using hbs2, .inr ⟨g, 0, cur, _, fz, rfl, fun hm => by
     rcases List.mem_append.1 hm with hm | hm
     ·simp only [List.mem_singleton] at hm; exact hbg hm.symm
     ·exact hgM hm, hfz, rdR_weak W 1 _ cur 0 (by rw [mx_bytesD]; exact Nat.le_refl _) k7⟩⟩
  ·refine ⟨hu.os, hu.tape, hu.output, hu.drawn, hu.size, fun q hq hne => hu.blk q hq fun hm => hne ?_⟩
   simp only [List.mem_singleton] at hm
   subst hm
   simp [hotOf, k1]
  ·rw [hH] at hq
   simp only [List.mem_singleton] at hq
   subst hq
   exact .inl (by simp [hotOf, h1])
  ·intro e he _
   simp only [List.mem_singleton] at he
   subst he
   exact hcur
  ·simp only [rd]
   exact ⟨trivial, by omega⟩

end
end Go.Dm
end

section
/-
  DERIVED: THE SHELF's CONTRACTS AT THIS DUMP, IN PLAIN WORDS (tools/lay-plain.mjs out of 'YtdgocjbakjamaaaGreatLay.lean', which tools/lay-shelf.mjs wrote): THE SAME DECLARATIONS UNDER THE SAME NAMES: 'import', 'namespace', 'open', 'def', 'theorem' AND NOTHING ELSE: no command of the shelf's: FOR A HAND-IN. Each laying: the table of numbers ('.._ren') and one theorem, a field a fact of the dump's own or the kernel's comparison; each contract: ONE APPLICATION.
-/















namespace Go.Proofs
open Go.Shelf
def Tryz.sortStr_ren : Go.Shelf.Ren := ⟨fun | 6 => 203 | 8 => 140 | 9 => 262 | 19 => 218 | 20 => 219 | 21 => 289 | 22 => 290 | 23 => 291 | 24 => 292 | 25 => 293 | 26 => 294 | 27 => 295 | 28 => 296 | 29 => 297 | 36 => 305 | 31 => 269 | 32 => 270 | 37 => 306 | 38 => 307 | 39 => 308 | 41 => 311 | n => n, fun | 27 => 51 | 29 => 9 | 3 => 3 | 32 => 199 | 26 => 51 | 0 => 0 | 44 => 266 | 46 => 176 | 4 => 4 | 36 => 259 | 35 => 258 | 41 => 263 | 5 => 5 | 9 => 9 | 53 => 311 | 57 => 315 | 63 => 332 | 64 => 274 | n => n, fun | n => n⟩
theorem Tryz.sortStr : Go.Proofs.SlLaysM.n6 Tryz.prog Tryz.sortStr_ren := {
 mixed := by kernel_rfl
 f6 := ⟨Tryz.f203.name, by decide, Tryz.func203.trans (congrArg some (by kernel_rfl))⟩
 f8 := Tryz.func140.trans (congrArg some (by kernel_rfl))
 f9 := ⟨Tryz.f262.name, by decide, Tryz.func262.trans (congrArg some (by kernel_rfl))⟩
 f19 := Tryz.func218.trans (congrArg some (by kernel_rfl))
 f20 := Tryz.func219.trans (congrArg some (by kernel_rfl))
 f21 := ⟨Tryz.f289.name, by decide, Tryz.func289.trans (congrArg some (by kernel_rfl))⟩
 f22 := ⟨Tryz.f290.name, by decide, Tryz.func290.trans (congrArg some (by kernel_rfl))⟩
 f23 := ⟨Tryz.f291.name, by decide, Tryz.func291.trans (congrArg some (by kernel_rfl))⟩
 f24 := ⟨Tryz.f292.name, by decide, Tryz.func292.trans (congrArg some (by kernel_rfl))⟩
 f25 := ⟨Tryz.f293.name, by decide, Tryz.func293.trans (congrArg some (by kernel_rfl))⟩
 f26 := ⟨Tryz.f294.name, by decide, Tryz.func294.trans (congrArg some (by kernel_rfl))⟩
 f27 := ⟨Tryz.f295.name, by decide, Tryz.func295.trans (congrArg some (by kernel_rfl))⟩
 f28 := ⟨Tryz.f296.name, by decide, Tryz.func296.trans (congrArg some (by kernel_rfl))⟩
 f29 := ⟨Tryz.f297.name, by decide, Tryz.func297.trans (congrArg some (by kernel_rfl))⟩
 f31 := Tryz.func269.trans (congrArg some (by kernel_rfl))
 f32 := Tryz.func270.trans (congrArg some (by kernel_rfl))
 f36 := ⟨Tryz.f305.name, by decide, Tryz.func305.trans (congrArg some (by kernel_rfl))⟩
 f37 := ⟨Tryz.f306.name, by decide, Tryz.func306.trans (congrArg some (by kernel_rfl))⟩
 f38 := ⟨Tryz.f307.name, by decide, Tryz.func307.trans (congrArg some (by kernel_rfl))⟩
 f39 := ⟨Tryz.f308.name, by decide, Tryz.func308.trans (congrArg some (by kernel_rfl))⟩
 f41 := ⟨Tryz.f311.name, by decide, Tryz.func311.trans (congrArg some (by kernel_rfl))⟩
 t0 := Tryz.underlying0
 a0 := Tryz.isAgg0
 z0 := Tryz.sizeOf0
 v0 := Tryz.zeroValue0
 t3 := Tryz.underlying3
 a3 := Tryz.isAgg3
 z3 := Tryz.sizeOf3
 v3 := Tryz.zeroValue3
 t4 := Tryz.underlying4
 a4 := Tryz.isAgg4
 z4 := Tryz.sizeOf4
 v4 := Tryz.zeroValue4
 t5 := Tryz.underlying5
 a5 := Tryz.isAgg5
 z5 := Tryz.sizeOf5
 v5 := Tryz.zeroValue5
 t9 := Tryz.underlying9
 a9 := Tryz.isAgg9
 z9 := Tryz.sizeOf9
 v9 := Tryz.zeroValue9
 t26 := Tryz.underlying51
 a26 := Tryz.isAgg51
 z26 := Tryz.sizeOf51
 v26 := Tryz.zeroValue51
 t27 := Tryz.underlying51
 a27 := Tryz.isAgg51
 z27 := Tryz.sizeOf51
 v27 := Tryz.zeroValue51
 t29 := Tryz.underlying9
 a29 := Tryz.isAgg9
 z29 := Tryz.sizeOf9
 v29 := Tryz.zeroValue9
 t32 := Tryz.underlying199
 a32 := Tryz.isAgg199
 z32 := Tryz.sizeOf199
 v32 := Tryz.zeroValue199
 t35 := Tryz.underlying258
 a35 := Tryz.isAgg258
 z35 := Tryz.sizeOf258
 v35 := Tryz.zeroValue258
 t36 := Tryz.underlying259
 a36 := Tryz.isAgg259
 z36 := Tryz.sizeOf259
 v36 := Tryz.zeroValue259
 t41 := Tryz.underlying263
 a41 := Tryz.isAgg263
 z41 := Tryz.sizeOf263
 v41 := Tryz.zeroValue263
 t44 := Tryz.underlying266
 a44 := Tryz.isAgg266
 z44 := Tryz.sizeOf266
 v44 := Tryz.zeroValue266
 t46 := Tryz.underlying176
 a46 := Tryz.isAgg176
 z46 := Tryz.sizeOf176
 v46 := Tryz.zeroValue176
 t53 := Tryz.underlying311
 a53 := Tryz.isAgg311
 z53 := Tryz.sizeOf311
 v53 := Tryz.zeroValue311
 t57 := Tryz.underlying315
 a57 := Tryz.isAgg315
 z57 := Tryz.sizeOf315
 v57 := Tryz.zeroValue315
 t63 := Tryz.underlying332
 a63 := Tryz.isAgg332
 z63 := Tryz.sizeOf332
 v63 := Tryz.zeroValue332
 t64 := Tryz.underlying274
 a64 := Tryz.isAgg274
 z64 := Tryz.sizeOf274
 v64 := Tryz.zeroValue274 }
def Tryz.bldString_ren : Go.Shelf.Ren := ⟨fun | 169 => 259 | n => n, fun | 70 => 296 | 9 => 9 | 0 => 0 | 72 => 299 | 37 => 297 | 127 => 324 | 3 => 3 | 5 => 5 | n => n, fun | n => n⟩
theorem Tryz.bldString : Go.Proofs.Lays.n169 Tryz.prog Tryz.bldString_ren := {
 mixed := by kernel_rfl
 f169 := Tryz.func259.trans (congrArg some (by kernel_rfl))
 t0 := Tryz.underlying0
 a0 := Tryz.isAgg0
 z0 := Tryz.sizeOf0
 v0 := Tryz.zeroValue0
 t3 := Tryz.underlying3
 a3 := Tryz.isAgg3
 z3 := Tryz.sizeOf3
 v3 := Tryz.zeroValue3
 t9 := Tryz.underlying9
 a9 := Tryz.isAgg9
 z9 := Tryz.sizeOf9
 v9 := Tryz.zeroValue9
 t37 := Tryz.underlying297
 a37 := Tryz.isAgg297
 z37 := Tryz.sizeOf297
 v37 := Tryz.zeroValue297
 t70 := Tryz.underlying296
 a70 := Tryz.isAgg296
 z70 := Tryz.sizeOf296
 v70 := Tryz.zeroValue296
 t72 := Tryz.underlying299
 a72 := Tryz.isAgg299
 z72 := Tryz.sizeOf299
 v72 := Tryz.zeroValue299
 t127 := Tryz.underlying324
 a127 := Tryz.isAgg324
 z127 := Tryz.sizeOf324
 v127 := Tryz.zeroValue324 }
def Tryz.sortFArc_ren : Go.Shelf.Ren := ⟨fun | 6 => 73 | 15 => 140 | 14 => 139 | 28 => 218 | 29 => 219 | 20 => 210 | 21 => 211 | 22 => 212 | 23 => 213 | 24 => 214 | 25 => 215 | 26 => 216 | 27 => 217 | 46 => 268 | 47 => 269 | 48 => 270 | 49 => 271 | 50 => 272 | 57 => 299 | n => n, fun | 22 => 29 | 24 => 49 | 25 => 127 | 3 => 3 | 39 => 199 | 0 => 0 | 53 => 266 | 55 => 176 | 4 => 4 | 46 => 259 | 45 => 258 | 50 => 263 | 5 => 5 | 9 => 9 | 66 => 311 | 70 => 315 | 76 => 332 | 77 => 274 | n => n, fun | n => n⟩
theorem Tryz.sortFArc : Go.Proofs.SlLaysF0.n6 Tryz.prog Tryz.sortFArc_ren := {
 mixed := by kernel_rfl
 f6 := ⟨Tryz.f73.name, by decide, Tryz.func73.trans (congrArg some (by kernel_rfl))⟩
 f14 := ⟨Tryz.f139.name, by decide, Tryz.func139.trans (congrArg some (by kernel_rfl))⟩
 f15 := Tryz.func140.trans (congrArg some (by kernel_rfl))
 f20 := ⟨Tryz.f210.name, by decide, Tryz.func210.trans (congrArg some (by kernel_rfl))⟩
 f21 := ⟨Tryz.f211.name, by decide, Tryz.func211.trans (congrArg some (by kernel_rfl))⟩
 f22 := ⟨Tryz.f212.name, by decide, Tryz.func212.trans (congrArg some (by kernel_rfl))⟩
 f23 := ⟨Tryz.f213.name, by decide, Tryz.func213.trans (congrArg some (by kernel_rfl))⟩
 f24 := ⟨Tryz.f214.name, by decide, Tryz.func214.trans (congrArg some (by kernel_rfl))⟩
 f25 := ⟨Tryz.f215.name, by decide, Tryz.func215.trans (congrArg some (by kernel_rfl))⟩
 f26 := ⟨Tryz.f216.name, by decide, Tryz.func216.trans (congrArg some (by kernel_rfl))⟩
 f27 := ⟨Tryz.f217.name, by decide, Tryz.func217.trans (congrArg some (by kernel_rfl))⟩
 f28 := Tryz.func218.trans (congrArg some (by kernel_rfl))
 f29 := Tryz.func219.trans (congrArg some (by kernel_rfl))
 f46 := ⟨Tryz.f268.name, by decide, Tryz.func268.trans (congrArg some (by kernel_rfl))⟩
 f47 := Tryz.func269.trans (congrArg some (by kernel_rfl))
 f48 := Tryz.func270.trans (congrArg some (by kernel_rfl))
 f49 := ⟨Tryz.f271.name, by decide, Tryz.func271.trans (congrArg some (by kernel_rfl))⟩
 f50 := ⟨Tryz.f272.name, by decide, Tryz.func272.trans (congrArg some (by kernel_rfl))⟩
 f57 := ⟨Tryz.f299.name, by decide, Tryz.func299.trans (congrArg some (by kernel_rfl))⟩
 t0 := Tryz.underlying0
 a0 := Tryz.isAgg0
 z0 := Tryz.sizeOf0
 v0 := Tryz.zeroValue0
 t3 := Tryz.underlying3
 a3 := Tryz.isAgg3
 z3 := Tryz.sizeOf3
 v3 := Tryz.zeroValue3
 t4 := Tryz.underlying4
 a4 := Tryz.isAgg4
 z4 := Tryz.sizeOf4
 v4 := Tryz.zeroValue4
 t5 := Tryz.underlying5
 a5 := Tryz.isAgg5
 z5 := Tryz.sizeOf5
 v5 := Tryz.zeroValue5
 t9 := Tryz.underlying9
 a9 := Tryz.isAgg9
 z9 := Tryz.sizeOf9
 v9 := Tryz.zeroValue9
 t22 := Tryz.underlying29
 a22 := Tryz.isAgg29
 z22 := Tryz.sizeOf29
 v22 := Tryz.zeroValue29
 t25 := Tryz.underlying127
 a25 := Tryz.isAgg127
 z25 := Tryz.sizeOf127
 v25 := Tryz.zeroValue127
 t39 := Tryz.underlying199
 a39 := Tryz.isAgg199
 z39 := Tryz.sizeOf199
 v39 := Tryz.zeroValue199
 t45 := Tryz.underlying258
 a45 := Tryz.isAgg258
 z45 := Tryz.sizeOf258
 v45 := Tryz.zeroValue258
 t46 := Tryz.underlying259
 a46 := Tryz.isAgg259
 z46 := Tryz.sizeOf259
 v46 := Tryz.zeroValue259
 t50 := Tryz.underlying263
 a50 := Tryz.isAgg263
 z50 := Tryz.sizeOf263
 v50 := Tryz.zeroValue263
 t53 := Tryz.underlying266
 a53 := Tryz.isAgg266
 z53 := Tryz.sizeOf266
 v53 := Tryz.zeroValue266
 t55 := Tryz.underlying176
 a55 := Tryz.isAgg176
 z55 := Tryz.sizeOf176
 v55 := Tryz.zeroValue176
 t66 := Tryz.underlying311
 a66 := Tryz.isAgg311
 z66 := Tryz.sizeOf311
 v66 := Tryz.zeroValue311
 t70 := Tryz.underlying315
 a70 := Tryz.isAgg315
 z70 := Tryz.sizeOf315
 v70 := Tryz.zeroValue315
 t76 := Tryz.underlying332
 a76 := Tryz.isAgg332
 z76 := Tryz.sizeOf332
 v76 := Tryz.zeroValue332
 t77 := Tryz.underlying274
 a77 := Tryz.isAgg274
 z77 := Tryz.sizeOf274
 v77 := Tryz.zeroValue274 }
def Tryz.sortInt_ren : Go.Shelf.Ren := ⟨fun | 189 => 75 | 125 => 140 | 257 => 144 | 128 => 218 | 129 => 219 | 294 => 221 | 295 => 222 | 296 => 223 | 297 => 224 | 298 => 225 | 299 => 226 | 216 => 227 | 300 => 228 | 301 => 229 | 328 => 273 | 329 => 269 | 330 => 270 | 331 => 274 | 332 => 275 | 215 => 220 | 343 => 300 | n => n, fun | 28 => 28 | 3 => 3 | 46 => 199 | 0 => 0 | 51 => 266 | 53 => 176 | 4 => 4 | 183 => 259 | 182 => 258 | 131 => 263 | 5 => 5 | 9 => 9 | 218 => 311 | 222 => 315 | 228 => 332 | 229 => 274 | n => n, fun | n => n⟩
theorem Tryz.sortInt : Go.Proofs.Lays.n189 Tryz.prog Tryz.sortInt_ren := {
 mixed := by kernel_rfl
 f125 := Tryz.func140.trans (congrArg some (by kernel_rfl))
 f128 := Tryz.func218.trans (congrArg some (by kernel_rfl))
 f129 := Tryz.func219.trans (congrArg some (by kernel_rfl))
 f189 := Tryz.func75.trans (congrArg some (by kernel_rfl))
 f215 := Tryz.func220.trans (congrArg some (by kernel_rfl))
 f216 := Tryz.func227.trans (congrArg some (by kernel_rfl))
 f257 := Tryz.func144.trans (congrArg some (by kernel_rfl))
 f294 := Tryz.func221.trans (congrArg some (by kernel_rfl))
 f295 := Tryz.func222.trans (congrArg some (by kernel_rfl))
 f296 := Tryz.func223.trans (congrArg some (by kernel_rfl))
 f297 := Tryz.func224.trans (congrArg some (by kernel_rfl))
 f298 := Tryz.func225.trans (congrArg some (by kernel_rfl))
 f299 := Tryz.func226.trans (congrArg some (by kernel_rfl))
 f300 := Tryz.func228.trans (congrArg some (by kernel_rfl))
 f301 := Tryz.func229.trans (congrArg some (by kernel_rfl))
 f328 := Tryz.func273.trans (congrArg some (by kernel_rfl))
 f329 := Tryz.func269.trans (congrArg some (by kernel_rfl))
 f330 := Tryz.func270.trans (congrArg some (by kernel_rfl))
 f331 := Tryz.func274.trans (congrArg some (by kernel_rfl))
 f332 := Tryz.func275.trans (congrArg some (by kernel_rfl))
 f343 := Tryz.func300.trans (congrArg some (by kernel_rfl))
 t0 := Tryz.underlying0
 a0 := Tryz.isAgg0
 z0 := Tryz.sizeOf0
 v0 := Tryz.zeroValue0
 t3 := Tryz.underlying3
 a3 := Tryz.isAgg3
 z3 := Tryz.sizeOf3
 v3 := Tryz.zeroValue3
 t4 := Tryz.underlying4
 a4 := Tryz.isAgg4
 z4 := Tryz.sizeOf4
 v4 := Tryz.zeroValue4
 t5 := Tryz.underlying5
 a5 := Tryz.isAgg5
 z5 := Tryz.sizeOf5
 v5 := Tryz.zeroValue5
 t9 := Tryz.underlying9
 a9 := Tryz.isAgg9
 z9 := Tryz.sizeOf9
 v9 := Tryz.zeroValue9
 t28 := Tryz.underlying28
 a28 := Tryz.isAgg28
 z28 := Tryz.sizeOf28
 v28 := Tryz.zeroValue28
 t46 := Tryz.underlying199
 a46 := Tryz.isAgg199
 z46 := Tryz.sizeOf199
 v46 := Tryz.zeroValue199
 t51 := Tryz.underlying266
 a51 := Tryz.isAgg266
 z51 := Tryz.sizeOf266
 v51 := Tryz.zeroValue266
 t53 := Tryz.underlying176
 a53 := Tryz.isAgg176
 z53 := Tryz.sizeOf176
 v53 := Tryz.zeroValue176
 t131 := Tryz.underlying263
 a131 := Tryz.isAgg263
 z131 := Tryz.sizeOf263
 v131 := Tryz.zeroValue263
 t182 := Tryz.underlying258
 a182 := Tryz.isAgg258
 z182 := Tryz.sizeOf258
 v182 := Tryz.zeroValue258
 t183 := Tryz.underlying259
 a183 := Tryz.isAgg259
 z183 := Tryz.sizeOf259
 v183 := Tryz.zeroValue259
 t218 := Tryz.underlying311
 a218 := Tryz.isAgg311
 z218 := Tryz.sizeOf311
 v218 := Tryz.zeroValue311
 t222 := Tryz.underlying315
 a222 := Tryz.isAgg315
 z222 := Tryz.sizeOf315
 v222 := Tryz.zeroValue315
 t228 := Tryz.underlying332
 a228 := Tryz.isAgg332
 z228 := Tryz.sizeOf332
 v228 := Tryz.zeroValue332
 t229 := Tryz.underlying274
 a229 := Tryz.isAgg274
 z229 := Tryz.sizeOf274
 v229 := Tryz.zeroValue274 }
def Tryz.keysM_ren : Go.Shelf.Ren := ⟨fun | 7 => 130 | 10 => 204 | n => n, fun | 23 => 190 | 26 => 9 | 3 => 3 | 28 => 188 | 0 => 0 | 27 => 187 | 33 => 247 | 4 => 4 | n => n, fun | n => n⟩
theorem Tryz.keysM : Go.Proofs.SlLaysZ.n7 Tryz.prog Tryz.keysM_ren := {
 mixed := by kernel_rfl
 f7 := ⟨Tryz.f130.name, by decide, Tryz.func130.trans (congrArg some (by kernel_rfl))⟩
 f10 := ⟨Tryz.f204.name, by decide, Tryz.func204.trans (congrArg some (by kernel_rfl))⟩
 t0 := Tryz.underlying0
 a0 := Tryz.isAgg0
 z0 := Tryz.sizeOf0
 v0 := Tryz.zeroValue0
 t4 := Tryz.underlying4
 a4 := Tryz.isAgg4
 z4 := Tryz.sizeOf4
 v4 := Tryz.zeroValue4
 t23 := Tryz.underlying190
 a23 := Tryz.isAgg190
 z23 := Tryz.sizeOf190
 v23 := Tryz.zeroValue190
 t26 := Tryz.underlying9
 a26 := Tryz.isAgg9
 z26 := Tryz.sizeOf9
 v26 := Tryz.zeroValue9
 t27 := Tryz.underlying187
 a27 := Tryz.isAgg187
 z27 := Tryz.sizeOf187
 v27 := Tryz.zeroValue187
 t28 := Tryz.underlying188
 a28 := Tryz.isAgg188
 z28 := Tryz.sizeOf188
 v28 := Tryz.zeroValue188
 t33 := Tryz.underlying247
 a33 := Tryz.isAgg247
 z33 := Tryz.sizeOf247
 v33 := Tryz.zeroValue247 }
def Tryz.sortedM_ren : Go.Shelf.Ren := ⟨fun | 6 => 129 | 8 => 202 | 9 => 203 | 11 => 261 | 13 => 140 | 12 => 262 | 23 => 218 | 24 => 219 | 14 => 289 | 15 => 290 | 16 => 291 | 17 => 292 | 18 => 293 | 19 => 294 | 20 => 295 | 21 => 296 | 22 => 297 | 25 => 305 | 26 => 269 | 27 => 270 | 28 => 306 | 29 => 307 | 30 => 308 | 31 => 311 | n => n, fun | 26 => 9 | 28 => 188 | 24 => 51 | 0 => 0 | 3 => 3 | 37 => 199 | 48 => 266 | 50 => 176 | 4 => 4 | 40 => 259 | 39 => 258 | 45 => 263 | 5 => 5 | 9 => 9 | 51 => 311 | 55 => 315 | 57 => 332 | 58 => 274 | 33 => 247 | n => n, fun | n => n⟩
theorem Tryz.sortedM : Go.Proofs.SlLaysZ.n6 Tryz.prog Tryz.sortedM_ren := {
 mixed := by kernel_rfl
 f6 := ⟨Tryz.f129.name, by decide, Tryz.func129.trans (congrArg some (by kernel_rfl))⟩
 f8 := ⟨Tryz.f202.name, by decide, Tryz.func202.trans (congrArg some (by kernel_rfl))⟩
 f11 := ⟨Tryz.f261.name, by decide, Tryz.func261.trans (congrArg some (by kernel_rfl))⟩
 t0 := Tryz.underlying0
 a0 := Tryz.isAgg0
 z0 := Tryz.sizeOf0
 v0 := Tryz.zeroValue0
 t24 := Tryz.underlying51
 a24 := Tryz.isAgg51
 z24 := Tryz.sizeOf51
 v24 := Tryz.zeroValue51
 t26 := Tryz.underlying9
 a26 := Tryz.isAgg9
 z26 := Tryz.sizeOf9
 v26 := Tryz.zeroValue9
 t28 := Tryz.underlying188
 a28 := Tryz.isAgg188
 z28 := Tryz.sizeOf188
 v28 := Tryz.zeroValue188
 i26 := by kernel_rfl }
def Tryz.growI_ren : Go.Shelf.Ren := ⟨fun | 4 => 209 | n => n, fun | 22 => 28 | 25 => 3 | 3 => 3 | 4 => 4 | 9 => 9 | 20 => 20 | 0 => 0 | n => n, fun | n => n⟩
theorem Tryz.growI : Go.Proofs.Lays8.n4 Tryz.prog Tryz.growI_ren := {
 mixed := by kernel_rfl
 f4 := ⟨Tryz.f209.name, by decide, Tryz.func209.trans (congrArg some (by kernel_rfl))⟩
 t0 := Tryz.underlying0
 a0 := Tryz.isAgg0
 z0 := Tryz.sizeOf0
 v0 := Tryz.zeroValue0
 t3 := Tryz.underlying3
 a3 := Tryz.isAgg3
 z3 := Tryz.sizeOf3
 v3 := Tryz.zeroValue3
 t4 := Tryz.underlying4
 a4 := Tryz.isAgg4
 z4 := Tryz.sizeOf4
 v4 := Tryz.zeroValue4
 t9 := Tryz.underlying9
 a9 := Tryz.isAgg9
 z9 := Tryz.sizeOf9
 v9 := Tryz.zeroValue9
 t20 := Tryz.underlying20
 a20 := Tryz.isAgg20
 z20 := Tryz.sizeOf20
 v20 := Tryz.zeroValue20
 t22 := Tryz.underlying28
 a22 := Tryz.isAgg28
 z22 := Tryz.sizeOf28
 v22 := Tryz.zeroValue28 }
end Go.Proofs
end

section

end

section
set_option linter.unusedSectionVars false
/- The data machine, second make, part Y: slices.SortFunc at structs, by the shelf's contract, as a contract on own rows. -/


set_option linter.unusedSimpArgs false
set_option linter.unusedVariables false
namespace Go.Dm
variable [DMode]
open Go.Shelf Go.Sort Go.Proofs

theorem upd_grow {w w' : World} (h : @Upd tapeMode [] w w') : ∃ q os, w' = grow (w.drewN q) os := by
 refine ⟨w'.drawn - w.drawn, w'.heap.extract w.heap.size w'.heap.size, ?_⟩
 obtain ⟨heap, tape, drawn, os, output⟩ := w'
 obtain ⟨h1, h2, h3, h4, h5, h6⟩ := h
 simp only at h1 h2 h3 h4 h5 h6 ⊢
 replace h4 := h4 rfl
 subst h1; subst h2; subst h3
 have e1 : w.heap ++ heap.extract w.heap.size heap.size = heap := by
  apply Array.ext_getElem?
  intro i
  by_cases hi : i < w.heap.size
  ·rw [Array.getElem?_append_left hi, ← h6 i hi (by simp)]
  ·rw [Array.getElem?_append_right (by omega), Array.getElem?_extract]
   by_cases hi2 : i < heap.size
   ·rw [if_pos (by omega)]
    congr 1
    omega
   ·rw [if_neg (by omega), Array.getElem?_eq_none (by omega)]
 have e2 : w.drawn + (drawn - w.drawn) = drawn := by omega
 simp [grow, World.drewN, e1, e2]

section
variable {P : Program} {ρ : Ren} {g : FuncId} {et k cap b : Nat} {cs : List DVal} {cs' : Array Value} {cf : List DVal → List DVal → Int} {es es' : List (List DVal)} {cu0 : Cur} {M1 : List Nat} {w : World} {arr : Array Value}

theorem sortWorld_at {α : Type} [Inhabited α] (enc : α → List Value) (p3 : w.heap[b]? = some (.cells arr et (0, 0))) (m : Nat) (os : Array Obj) (dk : Array α) :
  (sortWorldK enc k w b 0 m dk os).heap[b]? = some (.cells (putCells id 0 (flatK enc k dk) arr) et (0, 0)) ∧ (∀ q, q < w.heap.size → q ≠ b → (sortWorldK enc k w b 0 m dk os).heap[q]? = w.heap[q]?) ∧ w.heap.size ≤ (sortWorldK enc k w b 0 m dk os).heap.size ∧
   (sortWorldK enc k w b 0 m dk os).os = w.os ∧ (sortWorldK enc k w b 0 m dk os).tape = w.tape ∧ (sortWorldK enc k w b 0 m dk os).output = w.output ∧ w.drawn ≤ (sortWorldK enc k w b 0 m dk os).drawn := by
 have hblk : b < w.heap.size := (Array.getElem?_eq_some_iff.1 p3).1
 refine ⟨?_, fun q hq hqb => ?_, ?_, rfl, rfl, rfl, Nat.le_add_right _ _⟩
 ·simp only [sortWorldK, grow, putRowK, putRow, mapBlock, ahead]
  rw [Array.getElem?_append_left (by simpa using hblk), Array.getElem?_modify]
  simp [p3, onCells]
 ·simp only [sortWorldK, grow, putRowK, putRow, mapBlock, ahead]
  rw [Array.getElem?_append_left (by simpa using hq), Array.getElem?_modify]
  rw [if_neg (fun h => hqb h.symm)]
  rfl
 ·simp [sortWorldK, grow, putRowK, putRow, mapBlock, ahead]

theorem putCells_at {α : Type} [Inhabited α] {enc : α → List Value} (hlen : ∀ x, (enc x).length = k) {dk : Array α} {i p : Nat} (hi : i < dk.size) (hp : p < k) (hsz : dk.size * k ≤ arr.size) :
  (putCells id 0 (flatK enc k dk) arr)[i * k + p]? = (enc dk[i]!)[p]? := by
 have hrow := mul_lt_row (k := k) hi
 have hlt : i * k + p < arr.size := by omega
 have hdiv : (i * k + p) / k = i := by
  rw [Nat.mul_comm, Nat.mul_add_div (by omega), Nat.div_eq_of_lt hp]; omega
 have hmod : (i * k + p) % k = p := by rw [Nat.mul_comm, Nat.mul_add_mod]; exact Nat.mod_eq_of_lt hp
 have hlf : i * k + p < dk.size * k := by omega
 have hpe : p < (enc dk[i]!).length := by rw [hlen]; exact hp
 simp only [putCells, Nat.zero_add, Array.getElem?_mapIdx, Array.getElem?_eq_getElem hlt, Option.map_some, Nat.zero_le, true_and, size_flatK, hlf, if_true, Nat.sub_zero, id]
 rw [get_flatK _ _ _ _ hlf, hdiv, hmod, getElem!_pos (enc dk[i]!) p hpe, List.getElem?_eq_getElem hpe]

theorem sort_core {α : Type} [Inhabited α] (L : SlLaysF0.n6 P ρ) (dt : α → List DVal) (enc : α → List Value) (d : Array α) (hag : tAgg P (ρ.t 24) = some true) (hcl : tCells P (ρ.t 24) = some k) (hcs : mxL cs = 0) (hes : ∀ x ∈ es, mxL x = 0)
  (hdt : ∀ x, dt x ∈ es) (hdk : ∀ x, (dt x).length = k) (hrd : ∀ x, rdV cu0 M1 w.heap (dt x) (enc x)) (hone : ∀ x, ∀ u ∈ enc x, u.oneCell' = true) (hdsz : d.size = es.length)
  (hd : ∀ i (hi : i < es.length), dt d[i]! = es[i] ∧ ∀ (q : Nat) (v : Value), (enc d[i]!)[q]? = some v → arr[i * k + q]? = some v)
  (p3 : w.heap[b]? = some (.cells arr et (0, 0))) (hcap : es.length * k ≤ arr.size) (hbM : b ∈ M1) (hMlt : ∀ q ∈ M1, q < w.heap.size) (hcsr : rdV cu0 M1 w.heap cs cs'.toList) (hlt : es.length < 4611686018427387904)
  (hg : Enters P g) (hcmp : ∀ x ∈ es, ∀ y ∈ es, @DPure tapeMode P g (.agg x :: .agg y :: cs) (.int .i64 (cf x y)))
  (hirr : ∀ x ∈ es, ¬ cf x x < 0) (htr : ∀ x ∈ es, ∀ y ∈ es, ∀ z ∈ es, cf x y < 0 → cf y z < 0 → cf x z < 0) (hnt : ∀ x ∈ es, ∀ y ∈ es, ∀ z ∈ es, ¬ cf x y < 0 → ¬ cf y z < 0 → ¬ cf x z < 0)
  (huniq : ∀ l : List (List DVal), l.Perm es → l.Pairwise (fun x y => ¬ cf y x < 0) → l = es') :
  Calls P (ρ.f 6) #[.slice (some ⟨b, 0, none⟩) es.length cap, .func (.func g) #[] cs'] w fun e w' => e = .returned (.tuple #[]) ∧ es'.length = es.length ∧ Upd [b] w w' ∧
   ∃ arr', w'.heap[b]? = some (.cells arr' et (0, 0)) ∧ arr'.size = arr.size ∧ ∀ cur M2, (∀ q ∈ M2, q ∈ M1) → rdR cur M2 w'.heap k es' arr' 0 := by
 have hlen : ∀ x : α, (enc x).length = k := fun x => by
  have := rdV_length _ _ (hrd x)
  have := hdk x
  omega
 have hO : SWO (ltOf fun x y : α => cf (dt x) (dt y)) := by
  refine ⟨fun x => ?_, fun x y z h1 h2 => ?_, fun x y z h1 h2 => ?_⟩
  ·simp only [ltOf, decide_eq_false_iff_not]; exact hirr _ (hdt x)
  ·simp only [ltOf, decide_eq_true_eq] at *; exact htr _ (hdt x) _ (hdt y) _ (hdt z) h1 h2
  ·simp only [ltOf, decide_eq_false_iff_not] at *; exact hnt _ (hdt x) _ (hdt y) _ (hdt z) h1 h2
 have hH : HoldsK enc k w b 0 d := by
  intro j hj
  rw [size_flatK, hdsz] at hj
  have hk0 : 0 < k := by
   rcases Nat.eq_zero_or_pos k with h | h
   ·subst h; simp at hj
   ·exact h
  have hi : j / k < es.length := by rw [Nat.div_lt_iff_lt_mul hk0]; exact hj
  have hq : j % k < k := Nat.mod_lt _ hk0
  rw [get_flatK _ _ _ _ (by rw [hdsz]; exact hj)]
  have hq' : j % k < (enc d[j / k]!).length := by rw [hlen]; exact hq
  have hcell := (hd _ hi).2 (j % k) _ (List.getElem?_eq_getElem hq')
  rw [Nat.mul_comm, Nat.div_add_mod] at hcell
  rw [getElem!_pos (enc d[j / k]!) _ hq']
  exact ⟨by simp only [World.cell?, p3, Nat.zero_add, id]; exact hcell, by simp [World.frozen?, p3]⟩
 have hblk : b < w.heap.size := (Array.getElem?_eq_some_iff.1 p3).1
 have Wk : ∀ m os (dk : Array α) (cur : Cur) (M2 : List Nat), (∀ q ∈ M2, q ∈ M1) → Weak cu0 cur M1 M2 w.heap (sortWorldK enc k w b 0 m dk os).heap 0 := by
  intro m os dk cur M2 hM2
  have hW := sortWorld_at (et := et) (arr := arr) (k := k) enc p3 m os dk
  exact ⟨fun _ _ _ h => by omega, fun q o hq (_ : isD o = true) ho => by rw [hW.2.1 q (Array.getElem?_eq_some_iff.1 ho).1 (fun h => hq (h ▸ hbM))]; exact ho, fun q o hq (_ : isD o = true) _ hm => hq (hM2 q hm)⟩
 have hC : CmpLays P g cs' enc k (fun x y : α => cf (dt x) (dt y)) b 0 d.size w := by
  intro m os dk _ x y
  have hD := hcmp _ (hdt x) _ (hdt y)
  have hW := sortWorld_at (et := et) (arr := arr) (k := k) enc p3 m os dk
  have hx := rdV_weak (Wk m os dk (fun _ _ => none) M1 (fun _ h => h)) _ _ (Nat.le_of_eq (hes _ (hdt x))) (hrd x)
  have hy := rdV_weak (Wk m os dk (fun _ _ => none) M1 (fun _ h => h)) _ _ (Nat.le_of_eq (hes _ (hdt y))) (hrd y)
  have hc := rdV_weak (Wk m os dk (fun _ _ => none) M1 (fun _ h => h)) _ _ (Nat.le_of_eq hcs) hcsr
  obtain ⟨X, hX⟩ : ∃ X, X = (enc x).toArray := ⟨_, rfl⟩
  obtain ⟨Y, hY⟩ : ∃ Y, Y = (enc y).toArray := ⟨_, rfl⟩
  simp only [← hX, ← hY]
  generalize sortWorldK enc k w b 0 m dk os = V at hW hx hy hc ⊢
  have key := hD.2.2 (fun _ _ => none) M1 V (#[.agg X, .agg Y] ++ cs') (fun q hq => Nat.lt_of_lt_of_le (hMlt q hq) hW.2.2.1)
  refine (key ?_).mono ?_
  ·have e1 : (#[Value.agg X, Value.agg Y] ++ cs').toList = Value.agg X :: Value.agg Y :: cs'.toList := by simp
   rw [e1]
   simp only [rdV]
   refine ⟨_, _, rfl, ?_, _, _, rfl, ?_, hc⟩
   ·simp only [rd]; exact ⟨_, rfl, by rw [hX]; exact hx⟩
   ·simp only [rd]; exact ⟨_, rfl, by rw [hY]; exact hy⟩
  ·rintro e w' ⟨v, rfl, hu, hv⟩
   simp only [rd] at hv
   exact ⟨by rw [hv.1], upd_grow hu⟩
 have hrun := AnyQ.slices_SortFunc L k (run_isAgg hag) (run_sizeOf' hcl) enc hlen hone (fun x y : α => cf (dt x) (dt y)) hO g cs' b 0 cap d w hg hC hH hblk (by omega)
 rw [hdsz] at hrun
 refine hrun.mono ?_
 rintro e w' ⟨rfl, d', n, os, hP, hS, rfl⟩
 obtain ⟨hsz', _, hperm⟩ := hP
 rw [hdsz] at hsz'
 have e1 : d'.extract 0 es.length = d' := by rw [← hsz']; exact Array.extract_size
 have e2 : d.extract 0 es.length = d := by rw [← hdsz]; exact Array.extract_size
 rw [e1, e2] at hperm
 have hdes : d.toList.map dt = es := by
  apply List.ext_getElem
  ·simp [hdsz]
  ·intro i h1 h2
   have := (hd i h2).1
   rw [getElem!_pos d i (by omega)] at this
   simpa using this
 have hdata : d'.toList.map dt = es' := by
  refine huniq _ ?_ ?_
  ·have := hperm.map dt
   rwa [hdes] at this
  ·rw [List.pairwise_map, List.pairwise_iff_getElem]
   intro i j hi hj hij
   have hi' : i < d'.size := by simpa using hi
   have hj' : j < d'.size := by simpa using hj
   have := hS i j (Nat.zero_le _) hij (by omega)
   rw [getElem!_pos d' j hj', getElem!_pos d' i hi'] at this
   simpa [ltOf] using this
 have hlen' : es'.length = es.length := by rw [← hdata]; simp [hsz']
 obtain ⟨q1, q2, q3, q4, q5, q6, q7⟩ := sortWorld_at (et := et) (arr := arr) (k := k) enc p3 n os d'
 refine ⟨rfl, hlen', ⟨q4, q5, q6, fun _ => q7, q3, fun q hq hn => q2 q hq (fun h => hn (by simp [h]))⟩, _, q1, by simp [putCells], fun cur M2 hM2 => ?_⟩
 refine rdR_mk _ _ _ _ fun i cs0 hi => ?_
 have hil : i < es'.length := (List.getElem?_eq_some_iff.1 hi).1
 have hid : i < d'.size := by omega
 have hcs0 : cs0 = dt d'[i]! := by
  rw [← hdata, List.getElem?_map] at hi
  rw [getElem!_pos d' i hid]
  simp [hid] at hi
  exact hi.symm
 subst hcs0
 refine ⟨hdk _, ?_⟩
 have hv := rdV_weak (Wk n os d' cur M2 hM2) _ _ (Nat.le_of_eq (hes _ (hdt _))) (hrd d'[i]!)
 have h0 := rdC_of _ _ [] [] hv (hone _)
 refine rdC_same _ _ _ _ _ (fun p hp => ?_) h0
 have hp' : p < k := by rw [hdk] at hp; exact hp
 rw [Nat.zero_add, putCells_at hlen hid hp' (by rw [hsz']; exact hcap)]
 simp
end

theorem sort_spec {P : Program} {ρ : Ren} (L : SlLaysF0.n6 P ρ) {f g : FuncId} {et k bs : Nat} {cs : List DVal} {cf : List DVal → List DVal → Int} {es es' : List (List DVal)} (hf : ρ.f 6 = f) (hen : Enters P f) (hag : tAgg P (ρ.t 24) = some true) (hcl : tCells P (ρ.t 24) = some k)
  (hbs0 : 0 < bs) (hcs : mxL cs = 0) (hes : ∀ x ∈ es, mxL x = 0) (hg : Enters P g) (hcmp : ∀ x ∈ es, ∀ y ∈ es, @DPure tapeMode P g (.agg x :: .agg y :: cs) (.int .i64 (cf x y)))
  (hirr : ∀ x ∈ es, ¬ cf x x < 0) (htr : ∀ x ∈ es, ∀ y ∈ es, ∀ z ∈ es, cf x y < 0 → cf y z < 0 → cf x z < 0) (hnt : ∀ x ∈ es, ∀ y ∈ es, ∀ z ∈ es, ¬ cf x y < 0 → ¬ cf y z < 0 → ¬ cf x z < 0)
  (huniq : ∀ l : List (List DVal), l.Perm es → l.Pairwise (fun x y => ¬ cf y x < 0) → l = es') :
  DSpec P (.func f) [.osl 0 0, .fn (.func g) [] cs] [⟨0, 0, .row et k bs es⟩] (.tup []) [⟨0, 0, .row et k bs es'⟩] := by
 refine ⟨by simp, hen, fun M w loc vs S hr => ?_⟩
 refine ⟨hen, ?_⟩
 simp only [rdV] at hr
 obtain ⟨v0, r0, hvs, h0, v1, r1, rfl, h1, rfl⟩ := hr
 simp only [rd] at h0 h1
 obtain ⟨us', cs', rfl, hus, hcsr⟩ := h1
 simp only [rdV] at hus
 have hus' : us' = #[] := by cases us'; simpa using hus
 subst hus'
 have hcur0 : curOf [(⟨0, 0, .row et k bs es⟩ : Ent)] loc 0 0 = some (loc 0) := rfl
 have hv0 := h0 _ hcur0
 have hvs' : vs = #[v0, .func (.func g) #[] cs'] := by cases vs; simpa using hvs
 subst hvs'
 subst hf
 have hhot : hotOf [(⟨0, 0, .row et k bs es⟩ : Ent)] loc = (loc 0).blks := by simp [hotOf]
 have hhot' : hotOf [(⟨0, 0, .row et k bs es'⟩ : Ent)] loc = (loc 0).blks := by simp [hotOf]
 have htup : ∀ cur M h, rd cur M h (.tup []) (.tuple #[]) := fun _ _ _ => by simp only [rd]; exact ⟨#[], rfl, by simp [rdV]⟩
 have hk := S.ok ⟨0, 0, .row et k bs es⟩ (by simp)
 by_cases hne : es = []
 ·subst hne
  have hes' : es' = [] := (huniq [] (List.Perm.refl _) List.Pairwise.nil).symm
  subst hes'
  obtain ⟨a, cap, hh⟩ : ∃ a cap, (loc 0).hdr = .slice a 0 cap := by
   obtain ⟨_, ⟨_, _, h2⟩ | ⟨b, arr, cap, _, h2, _⟩⟩ := hk
   ·exact ⟨_, _, h2⟩
   ·exact ⟨_, _, h2⟩
  rw [hh] at hv0
  subst hv0
  refine (AnyF.slices_SortFunc_none { L with } a cap (.func (.func g) #[] cs') w).mono ?_
  rintro e w' ⟨rfl, rfl⟩
  exact ⟨_, rfl, loc, S, Upd.refl _ _, fun b hb => .inl hb, fun e he _ => curOf_self S.nd he, htup _ _ _⟩
 ·obtain ⟨b, arr, cap, p1, p2, p3, p4, p5, p6, p7⟩ : ∃ b arr cap, (loc 0).blks = [b] ∧ (loc 0).hdr = .slice (some ⟨b, 0, none⟩) es.length cap ∧ w.heap[b]? = some (.cells arr et (0, 0)) ∧ es.length ≤ cap ∧ cap ≤ maxLen ∧ cap * k = arr.size ∧ rdR (curOf [(⟨0, 0, .row et k bs es⟩ : Ent)] loc) (hotOf [(⟨0, 0, .row et k bs es⟩ : Ent)] loc ++ M) w.heap k es arr 0 := by
   obtain ⟨_, ⟨h, _⟩ | h⟩ := hk
   ·exact absurd h hne
   ·exact h
  have hbs := hk.1
  rw [p2] at hv0
  subst hv0
  obtain ⟨cu0, hcu0⟩ : ∃ c, c = curOf [(⟨0, 0, .row et k bs es⟩ : Ent)] loc := ⟨_, rfl⟩
  obtain ⟨M1, hM1⟩ : ∃ m, m = hotOf [(⟨0, 0, .row et k bs es⟩ : Ent)] loc ++ M := ⟨_, rfl⟩
  rw [← hcu0, ← hM1] at p7 hcsr
  have hbM : b ∈ M1 := by rw [hM1, hhot, p1]; simp
  have hMlt : ∀ q ∈ M1, q < w.heap.size := by rw [hM1]; exact S.lt
  have hcap : es.length * k ≤ arr.size := by rw [← p6]; exact Nat.mul_le_mul_right _ p4
  have hpos : 0 < es.length := List.length_pos_iff.2 hne
  have hel : ∀ i : Fin es.length, ∃ us : List Value, rdV cu0 M1 w.heap es[i.1] us ∧ (∀ u ∈ us, u.oneCell' = true) ∧ ∀ (q : Nat) (v : Value), us[q]? = some v → arr[i.1 * k + q]? = some v := by
   intro i
   obtain ⟨q1, q2⟩ := rdR_at k es arr 0 i.1 es[i.1] p7 (List.getElem?_eq_getElem i.2)
   obtain ⟨us, g1, g2, g3⟩ := rdC_vals _ _ _ q2
   refine ⟨us, g2, fun u hu => ?_, fun q v hq => ?_⟩
   ·obtain ⟨j, hj, rfl⟩ := List.getElem_of_mem hu
    exact (g3 j _ (List.getElem?_eq_getElem hj)).2
   ·have := (g3 q v hq).1
    simpa using this
  haveI : Inhabited (Fin es.length) := ⟨⟨0, hpos⟩⟩
  have hlt : es.length < 4611686018427387904 := by
   have h1 : es.length * 1 ≤ es.length * bs := Nat.mul_le_mul_left _ hbs0
   have h2 : es.length * bs ≤ 150000000000000 := hbs
   omega
  have hd : ∀ i (hi : i < es.length), (Array.ofFn (fun i : Fin es.length => i))[i]! = ⟨i, hi⟩ := by
   intro i hi
   rw [getElem!_pos _ i (by simpa using hi)]
   simp
  refine (sort_core (et := et) (α := Fin es.length) L (fun i => es[i.1]) (fun i => (hel i).choose) (Array.ofFn fun i => i) hag hcl hcs hes (fun i => List.getElem_mem _) (fun i => (rdR_at k es arr 0 i.1 es[i.1] p7 (List.getElem?_eq_getElem i.2)).1) (fun i => (hel i).choose_spec.1) (fun i => (hel i).choose_spec.2.1) (by simp)
   (fun i hi => by rw [hd i hi]; exact ⟨rfl, (hel ⟨i, hi⟩).choose_spec.2.2⟩) p3 hcap hbM hMlt hcsr hlt hg hcmp hirr htr hnt huniq).mono ?_
  rintro e w' ⟨rfl, hlen', hu, arr', r1, r2, r3⟩
  have hM2 : hotOf [(⟨0, 0, .row et k bs es'⟩ : Ent)] loc ++ M = M1 := by rw [hM1, hhot, hhot']
  refine ⟨_, rfl, loc, ⟨by simp, by rw [hhot', p1]; simp, fun q hq => S.ap q (by rw [hhot]; rwa [hhot'] at hq), fun q hq => ?_, ?_⟩, by rw [hhot, p1]; exact hu, fun q hq => .inl (by rw [hhot]; rwa [hhot'] at hq), ?_, htup _ _ _⟩
  ·rw [hM2] at hq; exact Nat.lt_of_lt_of_le (hMlt q hq) hu.size
  ·intro e he
   simp only [List.mem_singleton] at he
   subst he
   rw [hM2]
   exact ⟨by rw [hlen']; exact hbs, .inr ⟨b, arr', cap, p1, by rw [hlen']; exact p2, r1, by omega, p5, by omega, r3 _ _ fun _ h => h⟩⟩
  ·intro e he _
   simp only [List.mem_singleton] at he
   subst he
   exact hcur0
end Go.Dm
end

section
set_option linter.unusedSectionVars false
/- The data machine, second make, part St: slices.Sort at texts, strings.Compare, by the shelf's contracts. -/





set_option linter.unusedSimpArgs false
set_option linter.unusedVariables false
namespace Go.Dm
variable [DMode]
open Go.Shelf Go.Sort Go.Proofs Go.RowKit

def ssort (l : List ByteArray) : List ByteArray := ((l.map fun s => s.data.toList).mergeSort fun x y => decide (x ≤ y)).map fun x => ⟨x.toArray⟩
theorem ssort_len (l : List ByteArray) : (ssort l).length = l.length := by simp [ssort]

theorem putRow_at {α : Type} [Inhabited α] (enc : α → Value) {w : World} {b et : Nat} {arr : Array Value} (p3 : w.heap[b]? = some (.cells arr et (0, 0))) (m : Nat) (os : Array Obj) (dk : Array α) :
  (grow (putRow enc (Sort.ahead w m) b 0 dk) os).heap[b]? = some (.cells (putCells enc 0 dk arr) et (0, 0)) ∧ (∀ q, q < w.heap.size → q ≠ b → (grow (putRow enc (Sort.ahead w m) b 0 dk) os).heap[q]? = w.heap[q]?) ∧ w.heap.size ≤ (grow (putRow enc (Sort.ahead w m) b 0 dk) os).heap.size ∧
   (grow (putRow enc (Sort.ahead w m) b 0 dk) os).os = w.os ∧ (grow (putRow enc (Sort.ahead w m) b 0 dk) os).tape = w.tape ∧ (grow (putRow enc (Sort.ahead w m) b 0 dk) os).output = w.output ∧ w.drawn ≤ (grow (putRow enc (Sort.ahead w m) b 0 dk) os).drawn := by
 have hblk : b < w.heap.size := (Array.getElem?_eq_some_iff.1 p3).1
 refine ⟨?_, fun q hq hqb => ?_, ?_, rfl, rfl, rfl, Nat.le_add_right _ _⟩
 ·simp only [grow, putRow, mapBlock, Sort.ahead]
  rw [Array.getElem?_append_left (by simpa using hblk), Array.getElem?_modify]
  simp [p3, onCells]
 ·simp only [grow, putRow, mapBlock, Sort.ahead]
  rw [Array.getElem?_append_left (by simpa using hq), Array.getElem?_modify]
  rw [if_neg (fun h => hqb h.symm)]
 ·simp [grow, putRow, mapBlock, Sort.ahead]

end Go.Dm
end

section
set_option linter.unusedSectionVars false
/- strings.Builder, strings.Compare, slices.Sort at texts -/







set_option linter.unusedSimpArgs false
set_option linter.unusedVariables false
namespace Go.Proofs.YtdgocjbakjamaaaGreat
open Go Go.Dm Go.RowKit Go.Proofs
variable [DMode]
set_option maxRecDepth 100000

set_option maxHeartbeats 1000000 in
theorem copyCheck_first (b n : Nat) (w : World) (h0 : w.cell? ⟨b, 0, none⟩ = some (.pointer none)) (hsh : w.shape? b = some (299, n)) (hn : 0 < n) (hl : liesAt Tryz.prog Tryz.prog.depth 299 (n / Tryz.prog.cellsOf 299) 0 299 1 = true) (hfz : w.frozen? ⟨b, 0, none⟩ = false) :
  Calls Tryz.prog 288 #[.pointer (some ⟨b, 0, none⟩)] w fun e w' => e = .returned (.tuple #[]) ∧ w' = w.setCell ⟨b, 0, none⟩ (.pointer (some ⟨b, 0, none⟩)) := by
 obtain ⟨j, hj, hjs⟩ : ∃ j, Tryz.prog.info? 299 = some j ∧ j.size = 2 := Option.map_eq_some_iff.1 (show (Tryz.prog.info? 299).map (·.size) = some 2 by kernel_rfl)
 go_enter Tryz.func288, Tryz.ntmps288
 go_wp2
 rw [Lib.run_to_unsafe w ⟨b, 0, none⟩ Tryz.underlying296 Tryz.underlying337 hj (by rw [hjs]; decide) hsh hn]
 simp only [Result.andThen]
 rw [Oper.upon_value]
 go_wp2
 rw [run_callFunc_extern Tryz.func304 (by kernel_rfl) (by kernel_rfl) (by kernel_rfl) (e := Extern.AbiNoEscape.same) (by kernel_rfl)]
 rw [Lib.run_noEscape]
 simp only [Result.andThen]
 rw [Oper.upon_value]
 go_wp2
 rw [Lib.run_from_unsafe w ⟨b, 0, none⟩ Tryz.underlying337 Tryz.underlying296 hj hsh hl]
 simp only [Result.andThen]
 rw [Oper.upon_value]
 go_wp2
 go_end0
 exact ⟨rfl, rfl⟩
set_option maxHeartbeats 1000000 in
theorem copyCheck_used (b : Nat) (w : World) (h0 : w.cell? ⟨b, 0, none⟩ = some (.pointer (some ⟨b, 0, none⟩))) :
  Calls Tryz.prog 288 #[.pointer (some ⟨b, 0, none⟩)] w fun e w' => e = .returned (.tuple #[]) ∧ w' = w := by
 obtain ⟨j, hj, hjs⟩ : ∃ j, Tryz.prog.info? 299 = some j ∧ j.size = 2 := Option.map_eq_some_iff.1 (show (Tryz.prog.info? 299).map (·.size) = some 2 by kernel_rfl)
 go_enter Tryz.func288, Tryz.ntmps288
 go_wp2
 rw [Lib.run_neq_ptr_same w _ Tryz.underlying296 hj]
 go_wp2
 go_end0
 exact ⟨rfl, rfl⟩

attribute [local irreducible] DW callP callS

theorem checkFirst_spec : DSpec Tryz.prog (.func 288) [.rx 0 0 2 0 0] [⟨0, 0, .row 299 2 32 [[.nilp, .nilsl]]⟩] (.tup []) [⟨0, 0, .row 299 2 32 [[.rx 0 0 2 0 0, .nilsl]]⟩] :=
 copyCheck_spec1 (by show ¬ _; exact of_decide_eq_true (by kernel_rfl)) (by kernel_rfl) Tryz.call288 32 copyCheck_first
theorem checkUsed_spec (x : ByteArray) : DSpec Tryz.prog (.func 288) [.rx 0 0 2 0 0] [⟨0, 0, .row 299 2 32 [[.rx 0 0 2 0 0, .osl 1 0]]⟩, ⟨1, 0, .row 5 1 1 (bytesD x)⟩] (.tup [])
  [⟨0, 0, .row 299 2 32 [[.rx 0 0 2 0 0, .osl 1 0]]⟩, ⟨1, 0, .row 5 1 1 (bytesD x)⟩] :=
 copyCheck_spec2 Tryz.call288 32 (.osl 1 0) _ (by simp) copyCheck_used

def anWB0258 : Ann := ⟨[7], []⟩
set_option maxHeartbeats 1000000 in
theorem writeFirst_spec (x : ByteArray) (hx : x.size ≤ 150000000000000) :
  DSpec Tryz.prog (.func 258) [.rx 0 0 2 0 0, .str x] [⟨0, 0, .row 299 2 32 [[.nilp, .nilsl]]⟩] (.tup [.int .i64 x.size, .nilifc])
   [⟨0, 0, .row 299 2 32 [[.rx 0 0 2 0 0, .osl 1 1]]⟩, ⟨1, 1, .row 5 1 1 (bytesD x)⟩] := by
 refine DSpec_intro [] [(0, 0, 0), (14, 1, 1)] (fn := Tryz.f258) Tryz.func258 rfl Tryz.call258 (by simp [Tryz.ntmps258]) (by simp) (by simp) ?_
 intro hwf B hnt
 simp only [Tryz.ntmps258] at hnt
 have hA := an_is anWB0258 Tryz.mixed (aj2 @anWB0258.eq_1 Tryz.results258)
 simp only [argS]
 exact go0 aj0 (aj1 (spc [(0,0)] [] checkFirst_spec)) (aj1 hx)
def anWB0258b2 : Ann := ⟨[7], []⟩
set_option maxHeartbeats 1000000 in
theorem writeUsed_spec (y x : ByteArray) (hx : y.size + x.size ≤ 150000000000000) :
  DSpec Tryz.prog (.func 258) [.rx 0 0 2 0 0, .str x] [⟨0, 0, .row 299 2 32 [[.rx 0 0 2 0 0, .osl 1 0]]⟩, ⟨1, 0, .row 5 1 1 (bytesD y)⟩] (.tup [.int .i64 x.size, .nilifc])
   [⟨0, 0, .row 299 2 32 [[.rx 0 0 2 0 0, .osl 1 1]]⟩, ⟨1, 1, .row 5 1 1 (bytesD (y ++ x))⟩] := by
 refine DSpec_intro [] [(0, 0, 0), (1, 1, 1)] (fn := Tryz.f258) Tryz.func258 rfl Tryz.call258 (by simp [Tryz.ntmps258]) (by simp) (by simp) ?_
 intro hwf B hnt
 simp only [Tryz.ntmps258] at hnt
 have hA := an_is anWB0258b2 Tryz.mixed (aj2 @anWB0258b2.eq_1 Tryz.results258)
 simp only [argS]
 rw [bytesD_app]
 exact go0 aj0 (aj1 (spc [(0,0),(1,1)] [] (checkUsed_spec y))) (aj2 hx @bytesD_len)
theorem bldExtra : Builder.Extra Tryz.prog Tryz.bldString_ren where
 sizeBuilder := by kernel_rfl
 liesBuilder := by kernel_rfl
 t5 := Tryz.underlying5
 a5 := Tryz.isAgg5
 z5 := Tryz.sizeOf5
 v5 := Tryz.zeroValue5
 infoByte := by kernel_rfl
 cellsByte := by kernel_rfl
 sizeByte := by kernel_rfl
 neB5 := by decide
theorem stringSome_spec (x : ByteArray) (hx : x.size ≠ 0) : DSpec Tryz.prog (.func 259) [.rx 0 0 2 0 0] [⟨0, 0, .row 299 2 32 [[.rx 0 0 2 0 0, .osl 1 0]]⟩, ⟨1, 0, .row 5 1 1 (bytesD x)⟩] (.str x) [] :=
 builderString_spec2 Tryz.bldString bldExtra Tryz.call259 32 x hx
end Go.Proofs.YtdgocjbakjamaaaGreat
end

section
set_option linter.unusedSectionVars false
/- strings.Builder grown ahead of its first write -/

set_option linter.unusedSimpArgs false
set_option linter.unusedVariables false
namespace Go.Proofs.YtdgocjbakjamaaaGreat
open Go Go.Dm Go.RowKit Go.Proofs
variable [DMode]
set_option maxRecDepth 1000000

def GrownTo (w w' : World) (b : Nat) (rest : List Value) : Prop := ∃ (g : Nat) (cs : Array Value), Upd [b] w w' ∧ w.heap.size ≤ g ∧ cs.size ≤ maxLen ∧
 w'.heap[b]? = some (.cells (.pointer (some ⟨b, 0, none⟩) :: .slice (some ⟨g, 0, none⟩) 0 cs.size :: rest).toArray 299 (0, 0)) ∧ w'.heap[g]? = some (.cells cs 5 (0, 0))
theorem grown_of {b : Nat} {w : World} {cs : Array Value} {rest : List Value} (hbk : w.heap[b]? = some (.cells (.pointer (some ⟨b, 0, none⟩) :: .slice none 0 0 :: rest).toArray 299 (0, 0))) (hm : cs.size ≤ maxLen) :
  GrownTo w ((w.setCell ⟨b, 1, none⟩ (.slice (some ⟨w.heap.size, 0, none⟩) 0 cs.size)).alloc (.cells cs 5)).drew.drew.drew b rest := by
 have hlt : b < w.heap.size := (Array.getElem?_eq_some_iff.1 hbk).1
 refine ⟨w.heap.size, cs, ⟨rfl, rfl, rfl, ?_, ?_, ?_⟩, Nat.le_refl _, hm, ?_, ?_⟩
 ·simp [World.drew, World.alloc, World.setCell]; omega
 ·simp [World.drew, World.alloc, World.setCell]
 ·intro q hq hn
  simp only [List.mem_singleton] at hn
  simp only [World.drew, World.alloc, World.setCell]
  rw [Array.getElem?_push, if_neg (by simp; omega), Array.getElem?_modify, if_neg (fun h => hn h.symm)]
 ·simp only [World.drew, World.alloc, World.setCell]
  rw [Array.getElem?_push, if_neg (by simp; omega), Array.getElem?_modify, if_pos rfl, hbk]
  simp
 ·simp only [World.drew, World.alloc, World.setCell]
  rw [Array.getElem?_push, if_pos (by simp)]

set_option maxHeartbeats 2000000 in
theorem grow_first (b n : Nat) (rest : List Value) (w : World) (hbk : w.heap[b]? = some (.cells (.pointer (some ⟨b, 0, none⟩) :: .slice none 0 0 :: rest).toArray 299 (0, 0))) (hn : n ≤ 140737488355328) :
  Calls Tryz.prog 309 #[.pointer (some ⟨b, 0, none⟩), .int .i64 n] w fun e w' => e = .returned (.tuple #[]) ∧ GrownTo w w' b rest := by
 have mixed := Tryz.mixed
 obtain ⟨cs, hrun, hle, hmax⟩ := Lib.run_makeNoZero (P := Tryz.prog) w.drew #[3] 297 5 Tryz.underlying297 n (by omega)
 have hw : IntKind.i64.wrap (IntKind.i64.wrap 0 + (n : Int)) = n := by
  rw [wrap64_in (n := 0) (by omega) (by omega), wrap64_in (by omega) (by omega)]; omega
 have hlt : b < w.heap.size := (Array.getElem?_eq_some_iff.1 hbk).1
 have hcall : (callFunc 312 #[.int .i64 (IntKind.i64.wrap (IntKind.i64.wrap 0 + (n : Int)))]).run Tryz.prog w.drew = .ok (.value (.slice (some ⟨w.drew.heap.size, 0, none⟩) n cs.size)) (w.drew.drew.drew.alloc (.cells cs 5)) := by
  rw [hw, run_callFunc_extern Tryz.func312 (by kernel_rfl) (by kernel_rfl) (by kernel_rfl) (e := Extern.BytealgMakeNoZero.makeNoZero #[3] #[297]) (by kernel_rfl), hrun]
  rfl
 have c1 : w.drew.cell? ⟨b, 1, none⟩ = some (.slice none 0 0) := by
  have h1 : w.drew.heap[b]? = _ := hbk
  rw [Lib.cell_of_heap h1]; rfl
 have h2 : (w.alloc (.cells cs 5)).heap[b]? = some (.cells (.pointer (some ⟨b, 0, none⟩) :: .slice none 0 0 :: rest).toArray 299 (0, 0)) := (Lib.alloc_old w _ b hlt).trans hbk
 have c2 : (w.alloc (.cells cs 5)).cell? ⟨b, 1, none⟩ = some (.slice none 0 0) := by rw [Lib.cell_of_heap h2]; rfl
 have f2 : (w.alloc (.cells cs 5)).frozen? ⟨b, 1, none⟩ = false := Lib.frozen_of_heap h2 1
 have hcopy : ∀ W : World, (Builtin.copy_ #[297, 297] 3 #[.slice (some ⟨w.heap.size, 0, none⟩) 0 cs.size, .slice none 0 0]).run Tryz.prog W = .ok (goInt 0) W :=
  fun W => run_copy_none W 297 297 3 5 _ _ 0 cs.size 0 0 Tryz.underlying297 (by kernel_rfl) rfl
 clear hw
 go_enter Tryz.func309, Tryz.ntmps309
 go_wp2
 go_region_o
 all_goals (go_wp2; go_end0; exact ⟨rfl, grown_of hbk (hmax (by unfold maxLen; omega))⟩)
end Go.Proofs.YtdgocjbakjamaaaGreat
end

section
set_option linter.unusedSectionVars false
/- strings.Builder.Grow ahead of the first write -/

set_option linter.unusedSimpArgs false
set_option linter.unusedVariables false
namespace Go.Proofs.YtdgocjbakjamaaaGreat
open Go Go.Dm Go.RowKit Go.Proofs
variable [DMode]
set_option maxRecDepth 1000000

set_option maxHeartbeats 2000000 in
theorem Grow_first (b n : Nat) (rest : List Value) (w : World) (hbk : w.heap[b]? = some (.cells (.pointer none :: .slice none 0 0 :: rest).toArray 299 (0, 0))) (hn1 : 1 ≤ n) (hn : n ≤ 140737488355328) :
  Calls Tryz.prog 298 #[.pointer (some ⟨b, 0, none⟩), .int .i64 n] w fun e w' => e = .returned (.tuple #[]) ∧ GrownTo w w' b rest := by
 have mixed := Tryz.mixed
 have hlt : b < w.heap.size := (Array.getElem?_eq_some_iff.1 hbk).1
 have hbk1 : (w.setCell ⟨b, 0, none⟩ (.pointer (some ⟨b, 0, none⟩))).heap[b]? = some (.cells (.pointer (some ⟨b, 0, none⟩) :: .slice none 0 0 :: rest).toArray 299 (0, 0)) := by
  simp [World.setCell, Array.getElem?_modify, hbk]
 have c1 : (w.setCell ⟨b, 0, none⟩ (.pointer (some ⟨b, 0, none⟩))).drew.cell? ⟨b, 1, none⟩ = some (.slice none 0 0) := by
  have h1 : (w.setCell ⟨b, 0, none⟩ (.pointer (some ⟨b, 0, none⟩))).drew.heap[b]? = _ := hbk1
  rw [Lib.cell_of_heap h1]; rfl
 have hU : Upd [b] w (w.setCell ⟨b, 0, none⟩ (.pointer (some ⟨b, 0, none⟩))).drew := ⟨rfl, rfl, rfl, fun _ => Nat.le_succ _, by simp [World.setCell, World.drew], fun q hq hne => by
  simp only [List.mem_singleton] at hne
  simp only [World.setCell, World.drew]
  rw [Array.getElem?_modify, if_neg (fun h => hne h.symm)]⟩
 have hsh : w.shape? b = some (299, rest.length + 2) := by simp [World.shape?, hbk]
 have hc2 : Tryz.prog.cellsOf 299 = 2 := by kernel_rfl
 have hli := lies_same (P := Tryz.prog) (T := 299) (n := (rest.length + 2) / Tryz.prog.cellsOf 299) (by show ¬ _; exact of_decide_eq_true (by kernel_rfl)) (by rw [hc2]; decide) (by rw [hc2]; omega)
 have hcc := copyCheck_first b (rest.length + 2) w (by rw [Lib.cell_of_heap hbk]; rfl) hsh (by omega) hli (Lib.frozen_of_heap hbk 0)
 have hg := grow_first b n rest (w.setCell ⟨b, 0, none⟩ (.pointer (some ⟨b, 0, none⟩))).drew hbk1 hn
 go_enter Tryz.func298, Tryz.ntmps298
 go_wp2_with (refine hcc.mono ?_; rintro e w' ⟨rfl, rfl⟩)
 go_region_o
 all_goals go_wp2_with (refine hg.mono ?_; rintro e w' ⟨rfl, h1⟩)
 all_goals (go_end0; obtain ⟨g, cs, u, h2, h3, h4, h5⟩ := h1; exact ⟨rfl, g, cs, hU.trans u (fun x hx => .inl hx), by simpa [World.setCell, World.drew] using h2, h3, h4, h5⟩)
end Go.Proofs.YtdgocjbakjamaaaGreat
end

section
set_option linter.unusedSectionVars false
/- strings.Builder.Grow as a contract; strings.Join -/

set_option linter.unusedSimpArgs false
set_option linter.unusedVariables false
namespace Go.Proofs.YtdgocjbakjamaaaGreat
open Go Go.Dm Go.RowKit Go.Proofs
variable [DMode]
set_option maxRecDepth 100000

theorem growFirst_spec (n : Nat) (hn1 : 1 ≤ n) (hn : n ≤ 140737488355328) : DSpec Tryz.prog (.func 298) [.rx 0 0 2 0 0, .int .i64 n] [⟨0, 0, .row 299 2 32 [[.nilp, .nilsl]]⟩] (.tup [])
  [⟨0, 0, .row 299 2 32 [[.rx 0 0 2 0 0, .osl 1 1]]⟩, ⟨1, 1, .row 5 1 1 []⟩] := by
 refine ⟨by simp, Tryz.call298, fun M w loc vs S hvs => ?_⟩
 have hk := S.ok _ (List.mem_singleton.2 rfl)
 obtain ⟨hbs, hk⟩ := hk
 rcases hk with ⟨h, _⟩ | ⟨b, arr, cap, h1, h2, h3, h4, h5, h6, h7⟩
 ·simp at h
 ·obtain ⟨v0, v1, rest, rfl, g0, g1⟩ := bld_cells h7
  simp only [rd] at g0 g1
  subst g0; subst g1
  have hcur : curOf [(⟨0, 0, .row 299 2 32 [[.nilp, .nilsl]]⟩ : Ent)] loc 0 0 = some (loc 0) := by simp [curOf, findE]
  simp only [rdV, rd] at hvs
  obtain ⟨pv, r, hvs, hp, v2, r2, rfl, ⟨rfl, _⟩, rfl⟩ := hvs
  obtain ⟨b', hb', rfl⟩ := hp _ hcur
  simp only at h1 h2
  rw [h1] at hb'
  simp only [List.cons.injEq, and_true] at hb'
  subst hb'
  have hvs' : vs = #[.pointer (some ⟨b, 0, none⟩), .int .i64 n] := by apply Array.ext'; simpa using hvs
  subst hvs'
  refine ⟨Tryz.call298, (Grow_first b n rest w h3 hn1 hn).mono ?_⟩
  rintro e w' ⟨rfl, g, cs, hu, hg, hm, hb, hgc⟩
  have hgl : g < w'.heap.size := (Array.getElem?_eq_some_iff.1 hgc).1
  have hbl : b < w.heap.size := (Array.getElem?_eq_some_iff.1 h3).1
  let L1 : Dm.Loc := ⟨[g], .slice (some ⟨g, 0, none⟩) 0 cs.size⟩
  let loc' : Nat → Dm.Loc := fun i => if i = 1 then L1 else loc i
  have e0 : loc' 0 = loc 0 := rfl
  have e1 : loc' 1 = L1 := rfl
  let own' : List Ent := [⟨0, 0, .row 299 2 32 [[.rx 0 0 2 0 0, .osl 1 1]]⟩, ⟨1, 1, .row 5 1 1 []⟩]
  have hhot : hotOf own' loc' = [b, g] := by simp [own', hotOf, e0, e1, h1, L1]
  have hhot0 : hotOf [(⟨0, 0, .row 299 2 32 [[.nilp, .nilsl]]⟩ : Ent)] loc = [b] := by simp [hotOf, h1]
  have hc0 : curOf own' loc' 0 0 = some (loc 0) := by simp [own', curOf, findE, e0]
  have hc1 : curOf own' loc' 1 1 = some L1 := by simp [own', curOf, findE, e1]
  refine ⟨_, rfl, loc', ⟨by simp, ?_, ?_, ?_, ?_⟩, ?_, ?_, ?_, by simp [rd, rdV]⟩
  ·show (hotOf own' loc').Nodup
   rw [hhot]
   simp
   omega
  ·show ∀ q ∈ hotOf own' loc', q ∉ M
   rw [hhot]
   intro q hq
   rcases List.mem_cons.1 hq with rfl | hq
   ·exact S.ap q (by rw [hhot0]; simp)
   ·simp only [List.mem_singleton] at hq
    subst hq
    intro hM
    have := S.lt q (List.mem_append_right _ hM)
    omega
  ·show ∀ q ∈ hotOf own' loc' ++ M, q < w'.heap.size
   rw [hhot]
   intro q hq
   rcases List.mem_append.1 hq with hq | hq
   ·rcases List.mem_cons.1 hq with rfl | hq
    ·exact Nat.lt_of_lt_of_le hbl hu.size
    ·simp only [List.mem_singleton] at hq; subst hq; exact hgl
   ·exact Nat.lt_of_lt_of_le (S.lt q (List.mem_append_right _ hq)) hu.size
  ·intro e he
   rcases List.mem_cons.1 he with rfl | he
   ·refine ⟨hbs, .inr ⟨b, _, cap, h1, h2, hb, h4, h5, by simpa using h6, ?_⟩⟩
    refine bld_rdR ?_ ?_ rfl rfl
    ·simp only [rd]
     intro l hl
     have hl' : curOf own' loc' 0 0 = some l := hl
     rw [hc0] at hl'
     simp only [Option.some.injEq] at hl'
     subst hl'
     exact ⟨b, h1, by simp⟩
    ·simp only [rd]
     intro l hl
     have hl' : curOf own' loc' 1 1 = some l := hl
     rw [hc1] at hl'
     simp only [Option.some.injEq] at hl'
     subst hl'
     rfl
   ·simp only [List.mem_singleton] at he
    subst he
    exact ⟨by simp, .inr ⟨g, cs, cs.size, rfl, rfl, hgc, by simp, hm, by simp, by simp [rdR]⟩⟩
  ·rw [hhot0]; exact hu
  ·show ∀ q ∈ hotOf own' loc', _
   rw [hhot, hhot0]
   intro q hq
   rcases List.mem_cons.1 hq with rfl | hq
   ·exact .inl (by simp)
   ·simp only [List.mem_singleton] at hq; subst hq; exact .inr hg
  ·intro e he hr
   rcases List.mem_cons.1 he with rfl | he
   ·rw [hcur]; rfl
   ·simp only [List.mem_singleton] at he
    subst he
    simp at hr
end Go.Proofs.YtdgocjbakjamaaaGreat
end

