/- Parts of a proof, laid together: EnH. -/
import Derived.Test.YtedjakmhhlilaaaGreatqGx6
set_option linter.unusedSimpArgs false
set_option linter.unusedVariables false
set_option linter.unusedSectionVars false
section
namespace Go.Dm
variable [DMode]
def resOne (P : Program) (s : DS) : ResultVar → Option DVal
 | .tmp t => some (getS s.slots t)
 | .cell a t => match tAgg P t, tCells P t, cellsAt s.own (getS s.slots a) with
  | some true, some n, some cs => if n ≤ cs.length then some (.agg (cs.take n)) else none
  | some false, _, some cs => match cs with | d :: _ => some d | [] => none
  | _, _, _ => none
def resL (P : Program) (s : DS) : List ResultVar → Option (List DVal)
 | [] => some []
 | r :: rs => match resOne P s r, resL P s rs with
  | some d, some ds => some (d :: ds)
  | _, _ => none
def resD (P : Program) (s : DS) (rs : List ResultVar) : Option DVal :=
 match resL P s rs with
 | some [d] => some d
 | some ds => some (.tup ds)
 | none => none
def resRun (tmps : Array Value) : ResultVar → Sem Value
 | .tmp t => pure (tmps.getD t Go.undef)
 | .cell a t => do loadVar t (← asAddr (tmps.getD a Go.undef))
theorem results_eq (fn : Func) (tmps : Array Value) : results fn tmps = (do let vs ← fn.results.mapM (resRun tmps); pure (if h : vs.size = 1 then vs[0] else .tuple vs)) := by
 unfold results
 congr 1
section
variable {P : Program} {B : Base} {s : DS} {a : Act} {w : World} {loc : Nat → Loc}
structure Reads (B : Base) (s : DS) (a : Act) (w : World) (loc : Nat → Loc) : Prop where
 st : St s.own loc B.M0 w.heap
 sl : ∀ i, rd (curOf s.own loc) (hotOf s.own loc ++ B.M0) w.heap (getS s.slots i) (a.tmps.getD i Go.undef)
theorem run_resOne (R : Reads B s a w loc) {r : ResultVar} {d : DVal} (h : resOne P s r = some d) :
  ∃ v, (resRun a.tmps r).run P w = .ok v w ∧ Rds s loc B.M0 w d v := by
 cases r with
 | tmp t =>
  simp only [resOne, Option.some.injEq] at h; subst h
  exact ⟨_, rfl, R.sl t⟩
 | cell x t =>
  simp only [resOne] at h
  have hx := R.sl x
  split at h
  ·rename_i n cs hb hn hc
   split at h
   ·rename_i hle
    simp only [Option.some.injEq] at h; subst h
    obtain ⟨ad, u, hv, h1, h2⟩ := load_same (P := P) R.st (b := true) hb hx hc (fun _ => ⟨n, hn, hle⟩) (by simp)
    exact ⟨u, by simp only [resRun, hv]; simp [asAddr, h1], by simpa [hn] using h2⟩
   ·simp at h
  ·rename_i cs hb hc
   split at h
   ·simp only [Option.some.injEq] at h; subst h
    obtain ⟨ad, u, hv, h1, h2⟩ := load_same (P := P) R.st (b := false) hb hx hc (by simp) (by simp)
    exact ⟨u, by simp only [resRun, hv]; simp [asAddr, h1], by simpa using h2⟩
   ·simp at h
  ·simp at h
theorem run_resL (R : Reads B s a w loc) : ∀ (rs : List ResultVar) (ds : List DVal), resL P s rs = some ds →
  ∃ vs : List Value, (rs.mapM (m := Sem) (resRun a.tmps)).run P w = .ok vs w ∧ rdV (cu s loc) (hm s loc B.M0) w.heap ds vs
 | [], ds, h => by
  simp only [resL, Option.some.injEq] at h; subst h
  exact ⟨[], by simp, by simp [rdV]⟩
 | r :: rs, ds, h => by
  simp only [resL] at h
  split at h
  ·rename_i d ds' hd hds
   simp only [Option.some.injEq] at h; subst h
   obtain ⟨v, h1, h2⟩ := run_resOne R hd
   obtain ⟨vs, h3, h4⟩ := run_resL R rs ds' hds
   refine ⟨v :: vs, ?_, by simp only [rdV]; exact ⟨v, vs, rfl, h2, h4⟩⟩
   rw [List.mapM_cons, Sem.run_bind, h1]
   simp [h3]
  ·simp at h
theorem run_resD (R : Reads B s a w loc) {fn : Func} {d : DVal} (h : resD P s fn.results.toList = some d) : ∃ v, (results fn a.tmps).run P w = .ok v w ∧ Rds s loc B.M0 w d v := by
 unfold resD at h
 cases hl : resL P s fn.results.toList with
 | none => rw [hl] at h; simp at h
 | some ds =>
  rw [hl] at h
  obtain ⟨vs, h1, h2⟩ := run_resL R _ _ hl
  have hlen := rdV_length _ _ h2
  have hm : (fn.results.mapM (m := Sem) (resRun a.tmps)).run P w = .ok vs.toArray w := by
   rw [← Array.toArray_toList (xs := fn.results), List.mapM_toArray, Sem.run_map, h1]
   rfl
  rw [results_eq, Sem.run_bind, hm]
  match ds, vs, hlen, h2, h with
  | [d0], [v0], _, h2, h =>
   simp only [Option.some.injEq] at h; subst h
   simp only [rdV] at h2
   obtain ⟨v, r, he, h5, _⟩ := h2
   simp only [List.cons.injEq] at he
   obtain ⟨rfl, rfl⟩ := he
   exact ⟨v0, by simp, h5⟩
  | [], [], _, h2, h =>
   simp only [Option.some.injEq] at h; subst h
   exact ⟨.tuple #[], by simp, by simp only [Rds, rd]; exact ⟨#[], rfl, h2⟩⟩
  | d0 :: d1 :: ds, v0 :: v1 :: vs, _, h2, h =>
   simp only [Option.some.injEq] at h; subst h
   exact ⟨.tuple (v0 :: v1 :: vs).toArray, by simp, by simp only [Rds, rd]; exact ⟨_, rfl, h2⟩⟩
end
def argS : List DVal → Nat → List (Nat × DVal)
 | [], _ => []
 | d :: ds, i => (i, d) :: argS ds (i + 1)
theorem getS_argS : ∀ (ds : List DVal) (i t : Nat), getS (argS ds i) t = if t < i then .any else ds.getD (t - i) .any
 | [], i, t => by simp [argS, getS]
 | d :: ds, i, t => by
  simp only [argS, getS]
  by_cases h : t = i
  ·subst h; simp
  ·rw [if_neg h, getS_argS ds (i + 1) t]
   by_cases h1 : t < i
   ·rw [if_pos h1, if_pos (by omega)]
   ·rw [if_neg h1, if_neg (by omega)]
    have : t - i = (t - (i + 1)) + 1 := by omega
    rw [this, List.getD_cons_succ]
theorem St.same {own : List Ent} {loc : Nat → Loc} {M0 : List Nat} {h h' : Array Obj} (S : St own loc M0 h) (hsz : h.size ≤ h'.size)
  (hd : ∀ (b : Nat) (o : Obj), isD o = true → h[b]? = some o → h'[b]? = some o) (hb : ∀ (b : Nat) (o : Obj), b ∈ hotOf own loc → h[b]? = some o → h'[b]? = some o) : St own loc M0 h' where
 nd := S.nd
 bl := S.bl
 ap := S.ap
 lt := fun b hb => Nat.lt_of_lt_of_le (S.lt b hb) hsz
 ok := by
  intro e he
  have W : Weak (curOf own loc) (curOf own loc) (hotOf own loc ++ M0) (hotOf own loc ++ M0) h h' (mxO e.obj) :=
   ⟨fun _ _ _ _ h => h, fun b o _ (h1 : isD o = true) h2 => hd b o h1 h2, fun b o hb (_ : isD o = true) _ => hb⟩
  exact ObjOK_weak W (Nat.le_refl _) (fun b o hm ho => hb b o (mem_hot he hm) ho) (S.ok e he)
def FCalls (P : Program) (f : Fn) (vs : Array Value) (w : World) (R : Value → World → Prop) : Prop :=
 match f with
 | .func g => Enters P g ∧ Calls P g vs w fun e w' => ∃ v, e = .returned v ∧ R v w'
 | .yield l => ∃ fn tmps assign body, (Instr.yield l vs).run P w = .ok (.round l fn tmps assign body) w ∧ RoundIn (wd none) 0 P l fn tmps assign body w fun e w' => ∃ v, e = .returned v ∧ R v w'
 | _ => False
theorem FCalls.mono {P : Program} {f : Fn} {vs : Array Value} {w : World} {R R' : Value → World → Prop} (h : FCalls P f vs w R) (hr : ∀ v w', R v w' → R' v w') : FCalls P f vs w R' := by
 cases f with
 | func g => exact ⟨h.1, h.2.mono fun e w' ⟨v, he, hR⟩ => ⟨v, he, hr _ _ hR⟩⟩
 | yield l =>
  obtain ⟨fn, tmps, assign, body, h1, h2⟩ := h
  exact ⟨fn, tmps, assign, body, h1, h2.mono fun e w' ⟨v, he, hR⟩ => ⟨v, he, hr _ _ hR⟩⟩
 | method n => exact h.elim
 | methodOf t n => exact h.elim
 | via t p f q => exact h.elim
def Idle (P : Program) (g : FuncId × Nat) : Prop := Enters P g.1 ∧ ∀ args w, args.size = g.2 → CallsDIn (wd none) 0 P g.1 args .returning w fun e u' w' => (∃ v, e = .returned v) ∧ u' = .returning ∧ w' = w
def Dend (P : Program) (fn : Func) (K : DS → DVal → Prop) : Exit → DS → Prop
 | .normal, s => ∃ d0, resD P s fn.results.toList = some d0 ∧ K s d0
 | .ret, s => ∃ d0, resD P s fn.results.toList = some d0 ∧ K s d0
 | _, _ => False
theorem leaves_marks {P : Program} {fn : Func} {tmps : Array Value} {R : Ending → World → Prop} {idle : List (FuncId × Nat)} (hI : ∀ g ∈ idle, Idle P g) : ∀ (its : List DItem) (w : World), (marksOf its).Nodup → (∀ r ∈ marksOf its, w.heap[r]? = some (.deferred (some []))) →
  (∀ g cs, (.inr (g, cs) : DItem) ∈ its → (g, cs.size) ∈ idle) →
  (∀ w', Upd (marksOf its) w w' → w'.heap.size = w.heap.size → ∃ v, (results fn tmps).run P w' = .ok v w' ∧ R (.returned v) w') →
  LeavesInM (wd none) 0 P fn tmps R (its.map toDef) .returning w
 | [], w, _, _, _, h => h w (Upd.refl _ _) rfl
 | .inr (g, cs) :: its, w, hn, hr, hg, h => by
  obtain ⟨he, hc⟩ := hI _ (hg g cs List.mem_cons_self)
  refine ⟨by simp, .inr ⟨fun h => by simp [wd] at h, .func g, cs, g, #[] ++ cs, rfl, he _ _, fun _ _ => trivial, ?_⟩⟩
  refine CallsDIn.mono (hc _ w (by simp)) ?_
  rintro e u' w' ⟨⟨v, rfl⟩, rfl, rfl⟩
  exact leaves_marks hI its _ hn hr (fun g' cs' h' => hg g' cs' (List.mem_cons_of_mem _ h')) h
 | .inl r :: its, w, hn, hr, hg, h => by
  simp only [marksOf, List.nodup_cons] at hn
  refine ⟨by simp, .inl ⟨r, w.putObj r (.deferred none), rfl, run_takeDeferred (hr r List.mem_cons_self), ?_⟩⟩
  refine leaves_marks hI its _ hn.2 (fun r' hr' => ?_) (fun g' cs' h' => hg g' cs' (List.mem_cons_of_mem _ h')) (fun w' hu hs => h w' ?_ ?_)
  ·rw [World.putObj_heap_other (fun h => hn.1 (by rw [h] at hr'; exact hr'))]
   exact hr r' (List.mem_cons_of_mem _ hr')
  ·have hu0 : Upd [r] w (w.putObj r (.deferred none)) :=
    ⟨rfl, rfl, rfl, fun _ => Nat.le_refl _, by simp [World.putObj], fun b _ hb => World.putObj_heap_other (fun h => hb (by simp [h]))⟩
   refine (show Upd (r :: marksOf its) w w' from ?_)
   refine ⟨hu.os, hu.tape, hu.output, hu.drawn, Nat.le_trans hu0.size hu.size, fun b hb hnb => ?_⟩
   rw [hu.blk b (Nat.lt_of_lt_of_le hb hu0.size) (fun h => hnb (List.mem_cons_of_mem _ h)), hu0.blk b hb (fun h => hnb (by simp at h; simp [h]))]
  ·rw [hs]; simp [World.putObj]
theorem FCalls_introI {P : Program} (idle : List (FuncId × Nat)) (hI : ∀ g ∈ idle, Idle P g) {f : FuncId} {fn : Func} {c : Code} {args : List DVal} {own : List Ent} {M : List Nat} {w : World} {loc : Nat → Loc} {vs : Array Value} {N : Nat} {R : Value → World → Prop} {K : DS → DVal → Prop}
  (hf : P.funcs[f]? = some fn) (hb : fn.body = some c) (hen : Enters P f) (hnt : args.length ≤ fn.ntmps) (S : St own loc M w.heap) (hv : ∀ e ∈ own, e.r < N → True)
  (hr : rdV (curOf own loc) (hotOf own loc ++ M) w.heap args vs.toList)
  (h : ∀ B : Base, ((B.nt = fn.ntmps ∧ B.ro = none) ∧ B.idle = idle) ∧ B.N = N → DW P B c (Dend P fn K) ⟨argS args 0, own⟩)
  (fin : ∀ (s : DS) (loc' : Nat → Loc) (w' : World) (d0 : DVal) (v : Value), K s d0 → St s.own loc' M w'.heap → Upd (hotOf own loc) w w' → (∀ b ∈ hotOf s.own loc', b ∈ hotOf own loc ∨ w.heap.size ≤ b) →
   (∀ e ∈ s.own, e.r < N → curOf own loc e.id e.r = some (loc' e.id)) → rd (curOf s.own loc') (hotOf s.own loc' ++ M) w'.heap d0 v → R v w') : FCalls P (.func f) vs w R := by
 refine ⟨hen, ?_⟩
 refine (callsIn_wide (n := 0)).1 ?_
 refine callsIn_of_wp_marks hf hb trivial ?_ rfl
 let B : Base := ⟨own, loc, M, N, w, fn.ntmps, none, w.heap.size, Nat.le_refl _, idle⟩
 have hlen := rdV_length _ _ hr
 have R0 : Rel B ⟨argS args 0, own⟩ { tmps := vs ++ Array.replicate (fn.ntmps - vs.size) Go.undef, defers := [] } w loc := by
  refine ⟨S, Upd.refl _ _, fun b hb => .inl hb, fun e he _ => curOf_self S.nd he, ?_, by show _ = fn.ntmps; simp at hlen ⊢; omega, ⟨[], rfl, List.nodup_nil, by simp [marksOf], by simp, by simp⟩⟩
  intro i
  rw [getS_argS]
  simp only [Nat.not_lt_zero, if_false, Nat.sub_zero]
  cases hi : args[i]? with
  | none => simp [List.getD_eq_getElem?_getD, hi, rd]
  | some d0 =>
   obtain ⟨v, hv, h1⟩ := rdV_at _ _ i d0 hr hi
   have hlt : i < vs.size := by
    have := (List.getElem?_eq_some_iff.1 hv).1
    simpa using this
   have hv' : vs[i]? = some v := by simpa using hv
   rw [List.getD_eq_getElem?_getD, hi, Array.getD_eq_getD_getElem?, Array.getElem?_append_left hlt, hv']
   exact h1
 refine wpIn_mono (h B ⟨⟨⟨rfl, rfl⟩, rfl⟩, rfl⟩ _ w loc R0) ?_
 rintro e a' w' ⟨s', loc', hq, R'⟩
 have key : (∃ d0, resD P s' fn.results.toList = some d0 ∧ K s' d0) → LeavesInM (wd none) 0 P fn a'.tmps (fun e w' => ∃ v, e = .returned v ∧ R v w') a'.defers .returning w' := by
  rintro ⟨d0, hres, hK⟩
  obtain ⟨rs, hd1, hd0, hd2, _, hd4⟩ := R'.df
  rw [hd1]
  refine leaves_marks hI rs w' hd0 (fun r hr => (hd2 r hr).1) hd4 fun w'' hu hs => ?_
  have hdd : ∀ (b : Nat) (o : Obj), isD o = true → w'.heap[b]? = some o → w''.heap[b]? = some o := by
   intro b o ho hb
   have hlt := (Array.getElem?_eq_some_iff.1 hb).1
   rw [hu.blk b hlt (fun h => by rw [(hd2 b h).1] at hb; simp only [Option.some.injEq] at hb; subst hb; simp [isD] at ho)]
   exact hb
  have hhot : ∀ (b : Nat) (o : Obj), b ∈ hotOf s'.own loc' → w'.heap[b]? = some o → w''.heap[b]? = some o := by
   intro b o hm hb
   have hlt := (Array.getElem?_eq_some_iff.1 hb).1
   rw [hu.blk b hlt (fun h => (hd2 b h).2.2 (List.mem_append_left _ hm))]
   exact hb
  have S'' := R'.st.same (Nat.le_of_eq hs.symm) hdd hhot
  have W : ∀ n, Weak (curOf s'.own loc') (curOf s'.own loc') (hotOf s'.own loc' ++ M) (hotOf s'.own loc' ++ M) w'.heap w''.heap n := fun n =>
   ⟨fun _ _ _ _ h => h, fun b o _ (h1 : isD o = true) h2 => hdd b o h1 h2, fun b o hb (_ : isD o = true) _ => hb⟩
  have RR : Reads B s' a' w'' loc' := ⟨S'', fun i => rd_weak (W _) _ _ (Nat.le_refl _) (R'.sl i)⟩
  obtain ⟨v, h1, h2⟩ := run_resD RR hres
  refine ⟨v, h1, v, rfl, fin s' loc' w'' d0 v hK S'' ?_ R'.new R'.ver h2⟩
  refine R'.upd.trans hu (fun x hx => .inr (hd2 x hx).2.1)
 cases e <;> simp only [Dend] at hq <;> first
  | exact key hq
  | exact hq.elim
theorem hot_cons (e : Ent) (l : List Ent) (loc : Nat → Loc) : hotOf (e :: l) loc = (loc e.id).blks ++ hotOf l loc := by simp [hotOf]
theorem hot_inj {loc : Nat → Loc} : ∀ {own : List Ent}, (hotOf own loc).Nodup → ∀ e1 ∈ own, ∀ e2 ∈ own, ∀ b, b ∈ (loc e1.id).blks → b ∈ (loc e2.id).blks → e1 = e2
 | [], _, e1, h1, _, _, _, _, _ => by cases h1
 | e :: l, hn, e1, h1, e2, h2, b, hb1, hb2 => by
  rw [hot_cons, List.nodup_append] at hn
  obtain ⟨_, hn2, hn3⟩ := hn
  rcases List.mem_cons.1 h1 with rfl | h1'
  ·rcases List.mem_cons.1 h2 with rfl | h2'
   ·rfl
   ·exact absurd rfl (hn3 b hb1 b (mem_hot h2' hb2))
  ·rcases List.mem_cons.1 h2 with rfl | h2'
   ·exact absurd rfl (hn3 b hb2 b (mem_hot h1' hb1))
   ·exact hot_inj hn2 e1 h1' e2 h2' b hb1 hb2
theorem blks_nodup {loc : Nat → Loc} : ∀ {own : List Ent}, (hotOf own loc).Nodup → ∀ e ∈ own, ((loc e.id).blks).Nodup
 | [], _, e, h => by cases h
 | a :: l, hn, e, h => by
  rw [hot_cons, List.nodup_append] at hn
  rcases List.mem_cons.1 h with rfl | h'
  ·exact hn.1
  ·exact blks_nodup hn.2.1 e h'
theorem hot_nodup_sub {own : List Ent} {loc : Nat → Loc} (hn : (hotOf own loc).Nodup) : ∀ l : List Ent, (l.map (·.id)).Nodup → (∀ e ∈ l, e ∈ own) → (hotOf l loc).Nodup
 | [], _, _ => by simp [hotOf]
 | e :: l, hd, hm => by
  simp only [List.map_cons, List.nodup_cons] at hd
  rw [hot_cons, List.nodup_append]
  refine ⟨blks_nodup hn e (hm e List.mem_cons_self), hot_nodup_sub hn l hd.2 (fun x hx => hm x (List.mem_cons_of_mem _ hx)), ?_⟩
  intro b hb b' hb' hbb
  subst hbb
  obtain ⟨e2, he2, hb2⟩ := List.mem_flatMap.1 hb'
  have := hot_inj hn e (hm e List.mem_cons_self) e2 (hm e2 (List.mem_cons_of_mem _ he2)) b hb hb2
  subst this
  exact hd.1 (List.mem_map_of_mem (f := (·.id)) he2)
end Go.Dm
end
