/- The data machine, second make, part X: the statement 'for .. := range f', over an iterator that has its contract. -/
import Derived.Test.YtihkcegelghcpaaEnW
import Derived.RangeFuncNested
set_option linter.unusedSimpArgs false
set_option linter.unusedVariables false
namespace Go.Dm

/-- the first round that says stop -/
def stopAt (ok : Nat → Bool) : Nat → Option Nat
  | 0 => none
  | n + 1 => match stopAt ok n with
    | some k => some k
    | none => if ok n then none else some n

/-- AN ITERATOR's CONTRACT: it calls with these, one after the other, until it is told to stop. -/
def ISpec (P : Program) (f : FuncId) (us cs : List DVal) (xs : List (List DVal)) (ok : Nat → Bool) : Prop :=
  ∀ (l : Nat) (A Z : Nat → Abs), (∀ k x, xs[k]? = some x → (∀ j, j < k → ok j = true) → YAt P l (A k) x (ok k) (if ok k then A (k + 1) else Z k)) →
    DSpec P (.func f) (us ++ .pk 0 0 :: cs) [⟨0, 0, .abs (yH l)⟩, ⟨1, 0, .abs (A 0)⟩] (.tup []) [⟨0, 0, .abs (yH l)⟩, ⟨1, 1, .abs (match stopAt ok xs.length with | none => A xs.length | some k => Z k)⟩]

/-- the statement, as a thing that is run -/
def loopC (P : Program) (c : Code) (idx : List Nat) (nt : Nat) (e0 : Exit) : Tran := fun vs w R => ∀ a : Act, idx.map (fun i => a.tmps.getD i Go.undef) = vs.toList → a.tmps.size = nt →
  c.wpIn (wd none) 0 P (fun e a' w' => e = e0 ∧ (∃ D, a' = { a with defers := { target := .collected D, args := #[] } :: a.defers } ∧ w.heap.size ≤ D ∧ w'.heap[D]? = some (.deferred (some []))) ∧ R (.tuple #[]) w') a w

theorem rdV_idx {cur : Cur} {M : List Nat} {h : Array Obj} {f : Nat → Value} : ∀ {sl : List (Nat × DVal)}, rdV cur M h (sl.map (·.2)) (sl.map fun p => f p.1) → ∀ p ∈ sl, rd cur M h p.2 (f p.1)
  | [], _, p, hp => by cases hp
  | q :: sl, hr, p, hp => by
    simp only [List.map_cons, rdV] at hr
    obtain ⟨v, r, he, h1, h2⟩ := hr
    simp only [List.cons.injEq] at he
    obtain ⟨rfl, rfl⟩ := he
    rcases List.mem_cons.1 hp with rfl | hp
    · exact h1
    · exact rdV_idx h2 p hp

theorem loop_spec {P : Program} {gt nt : Nat} {ps : Array Tmp} {assign body : Code} {f : FuncId} {us cs : List DVal} {xs : List (List DVal)} {ok : Nat → Bool} {sl : List (Nat × DVal)} {S Z : Nat → List Ent} {jc : Nat → Code} {T : List Ent} {e0 : Exit}
    (hsl : mxS sl ≤ 1) (hI : ISpec P f us cs xs ok) (hmx : mxL us = 0 ∧ mxL cs = 0) (hgt : (gt, .fn (.func f) us cs) ∈ sl) (hps : ∀ x ∈ xs, x.length = ps.size ∧ mxL x = 0) (hpn : ∀ p ∈ ps.toList, p < nt)
    (round : ∀ k x, xs[k]? = some x → (∀ j, j < k → ok j = true) → ∀ B : Base, B.nt = nt → DW P B assign (RA P nt body (ok k) (if ok k then S (k + 1) else Z k) (jc k)) ⟨putM ps.toList x sl, S k⟩)
    (hT : match stopAt ok xs.length with | none => e0 = .normal ∧ T = S xs.length | some k => (jc k = .ret ∧ e0 = .ret ∨ (∃ id, jc k = .exit id ∧ e0 = .exit id) ∨ (∃ t, jc k = .goto t ∧ e0 = .goto t)) ∧ T = Z k) :
    DSpecG (loopC P (.rangeFunc (.tmp gt) ps assign body) (sl.map (·.1)) nt e0) (sl.map (·.2)) (S 0) (.tup []) T := by
  intro M w loc vs St0 hr a hvs hnt
  have hslot : ∀ p ∈ sl, rd (curOf (S 0) loc) (hotOf (S 0) loc ++ M) w.heap p.2 (a.tmps.getD p.1 Go.undef) := by
    refine rdV_idx (f := fun i => a.tmps.getD i Go.undef) ?_
    rw [← hvs, List.map_map] at hr
    exact hr
  have hg := hslot _ hgt
  simp only [rd] at hg
  obtain ⟨us', cs', hv, hus, hcs⟩ := hg
  refine wpIn_rangeFunc ?_
  intro fn hfn
  obtain ⟨rec, hrec⟩ : ∃ rec : Loop, rec = { state := .ready, pending := none, fn, tmps := a.tmps, params := ps, assign, body, defers := w.heap.size } := ⟨_, rfl⟩
  obtain ⟨W1, hW1⟩ : ∃ W1, W1 = (w.alloc (.deferred (some []))).alloc (.loop rec) := ⟨_, rfl⟩
  obtain ⟨l, hl⟩ : ∃ l, l = w.heap.size + 1 := ⟨_, rfl⟩
  have hsz1 : W1.heap.size = w.heap.size + 2 := by rw [hW1]; simp
  have hold1 : ∀ b, b < w.heap.size → W1.heap[b]? = w.heap[b]? := by
    intro b hb
    rw [hW1]
    simp only [World.alloc, Array.getElem?_push, Array.size_push]
    rw [if_neg (by omega), if_neg (by omega)]
  have hD1 : W1.heap[w.heap.size]? = some (.deferred (some [])) := by
    rw [hW1]; simp only [World.alloc, Array.getElem?_push, Array.size_push]
    rw [if_neg (by omega)]; simp
  have hl1 : W1.heap[l]? = some (.loop rec) := by
    rw [hW1, hl]; simp only [World.alloc, Array.getElem?_push, Array.size_push]
    simp
  have hen := run_enterLoop_outer (P := P) (w := w) fn a.tmps ps assign body
  rw [← hrec, ← hW1, ← hl] at hen
  let A : Nat → Abs := fun k => AbsL sl hsl (S k) a.tmps (S 0) loc l rec
  let Zs : Nat → Abs := fun k => AbsL sl hsl (Z k) a.tmps (S 0) loc l { rec with state := .done, pending := some (jc k) }
  have hy : ∀ k x, xs[k]? = some x → (∀ j, j < k → ok j = true) → YAt P l (A k) x (ok k) (if ok k then A (k + 1) else Zs k) := by
    intro k x hx hj
    have hxm := hps x (List.mem_of_getElem? hx)
    have hY := YAt_of (hsl := hsl) (own := S k) (S := if ok k then S (k + 1) else Z k) (own0 := S 0) (loc0 := loc) (l := l) (L := rec) (tm := a.tmps) (nt := nt) (x := x) (okk := ok k) (j := jc k) (by rw [hrec]) (by rw [hrec]) (by rw [hrec]) hnt (by rw [hrec]; exact hxm.1) (by rw [hrec]; exact hpn) hxm.2 (by rw [hrec]; exact round k x hx hj)
    cases hk : ok k with
    | true =>
      rw [hk] at hY
      have e1 : ({ rec with state := if true = true then .ready else .done, pending := if true = true then none else some (jc k) } : Loop) = rec := by rw [hrec]; rfl
      rw [e1] at hY
      exact hY
    | false =>
      rw [hk] at hY
      exact hY
  have hD := hI l A Zs hy
  have hhotlt : ∀ b ∈ hotOf (S 0) loc, b < w.heap.size := fun b hb => St0.lt b (List.mem_append_left _ hb)
  let loc1 : Nat → Loc := fun i => if i = 0 then ⟨[], .func (.yield l) #[] #[]⟩ else ⟨hotOf (S 0) loc ++ [l], .func (.yield l) #[] #[]⟩
  have hhot1 : hotOf [⟨0, 0, .abs (yH l)⟩, ⟨1, 0, .abs (A 0)⟩] loc1 = hotOf (S 0) loc ++ [l] := by simp [hotOf, loc1]
  have W1w : ∀ n, Weak (curOf (S 0) loc) (curOf (S 0) loc) (hotOf (S 0) loc ++ M) (hotOf (S 0) loc ++ [l] ++ M) w.heap W1.heap n := fun n =>
    ⟨fun _ _ _ _ h => h, fun b o _ (_ : isD o = true) ho => by rw [hold1 b (Array.getElem?_eq_some_iff.1 ho).1]; exact ho, fun b o hb (_ : isD o = true) ho hm => by
      have hlt := (Array.getElem?_eq_some_iff.1 ho).1
      simp only [List.mem_append, List.mem_singleton] at hm hb
      rcases hm with (hm | hm) | hm
      · exact hb (.inl hm)
      · omega
      · exact hb (.inr hm)⟩
  have St1 : St [⟨0, 0, .abs (yH l)⟩, ⟨1, 0, .abs (A 0)⟩] loc1 M W1.heap := by
    refine ⟨by simp, ?_, ?_, ?_, ?_⟩
    · rw [hhot1, List.nodup_append]
      exact ⟨St0.bl, by simp, fun b hb b' hb' => by simp only [List.mem_singleton] at hb'; have := hhotlt b hb; omega⟩
    · rw [hhot1]
      intro b hb hm
      rcases List.mem_append.1 hb with hb | hb
      · exact St0.ap b hb hm
      · simp only [List.mem_singleton] at hb
        have := St0.lt b (List.mem_append_right _ hm)
        omega
    · rw [hhot1]
      intro b hb
      simp only [List.mem_append, List.mem_singleton] at hb
      rcases hb with (hb | hb) | hb
      · have := hhotlt b hb; omega
      · omega
      · have := St0.lt b (List.mem_append_right _ hb); omega
    · intro e he
      simp only [List.mem_cons, List.not_mem_nil, or_false] at he
      rcases he with rfl | rfl
      · exact ⟨rfl, rfl⟩
      · refine ⟨rfl, loc, rfl, St0.nd, fun e he => ?_, fun p hp => ?_, hl1, fun e he _ => curOf_self St0.nd he⟩
        · rw [hhot1]
          exact ObjOK_weak (W1w _) (Nat.le_refl _) (fun b o hb ho => by rw [hold1 b (Array.getElem?_eq_some_iff.1 ho).1]; exact ho) (St0.ok e he)
        · rw [hhot1]
          exact rd_weak (W1w _) _ _ (Nat.le_refl _) (hslot p hp)
  have W1z : Weak (curOf (S 0) loc) (curOf [⟨0, 0, .abs (yH l)⟩, ⟨1, 0, .abs (A 0)⟩] loc1) (hotOf (S 0) loc ++ M) (hotOf [⟨0, 0, .abs (yH l)⟩, ⟨1, 0, .abs (A 0)⟩] loc1 ++ M) w.heap W1.heap 0 := by
    rw [hhot1]
    exact ⟨fun _ _ _ h => by omega, (W1w 0).b, (W1w 0).m⟩
  have hcall := hD.2.2 M W1 loc1 (us' ++ #[.func (.yield l) #[] #[]] ++ cs') St1 (by
    have e1 : (us' ++ #[Value.func (.yield l) #[] #[]] ++ cs').toList = us'.toList ++ Value.func (.yield l) #[] #[] :: cs'.toList := by simp
    rw [e1]
    refine rdV_append _ _ _ _ (rdV_weak W1z _ _ (Nat.le_of_eq hmx.1) hus) ?_
    simp only [rdV]
    refine ⟨_, _, rfl, ?_, rdV_weak W1z _ _ (Nat.le_of_eq hmx.2) hcs⟩
    simp only [rd]
    intro lc hlc
    have : curOf [⟨0, 0, .abs (yH l)⟩, ⟨1, 0, .abs (A 0)⟩] loc1 0 0 = some (loc1 0) := rfl
    rw [this] at hlc
    simp only [Option.some.injEq] at hlc
    rw [← hlc]
    rfl)
  have hev : a.eval (.tmp gt) = .func (.func f) us' cs' := hv
  refine ⟨l, [{ target := .collected w.heap.size, args := #[] }], W1, { target := .fn (.func f) cs', args := us' ++ #[.func (.yield l) #[] #[]] }, W1, f, us' ++ #[.func (.yield l) #[] #[]] ++ cs', W1, hen, ?_, fun _ _ => trivial, ?_, fun h => by simp [wd] at h, ?_⟩
  · simp only [resolve, rangeCall, hev]
    simp [Deferred.ofValue, Act.eval]
  · simp only [invoke]
    exact hcall.1 _ _
  · refine (calls_wd none _ hcall.2).mono ?_
    rintro e w2 ⟨v, rfl, loc2, S2, hu, hnew, hver, _⟩
    have hk := S2.ok _ (List.mem_cons_of_mem _ List.mem_cons_self)
    have hk0 := S2.ok _ List.mem_cons_self
    have hb0 : (loc2 0).blks = [] := hk0.1
    -- what is known behind, by the loop's state
    have main : ∀ (L : Loop) (T' : List Ent), (AbsL sl hsl T' a.tmps (S 0) loc l L).J (hotOf [⟨0, 0, .abs (yH l)⟩, ⟨1, 1, .abs (match stopAt ok xs.length with | none => A xs.length | some k => Zs k)⟩] loc2 ++ M) (loc2 1).blks (loc2 1).hdr w2.heap → L.state ≠ .busy →
        (Instr.endLoop l).run P w2 = .ok L.pending (w2.putObj l (.loop { L with state := .exhausted })) ∧ (∃ D, ({ a with defers := [{ target := .collected w.heap.size, args := #[] }] ++ a.defers } : Act) = { a with defers := { target := .collected D, args := #[] } :: a.defers } ∧ w.heap.size ≤ D ∧ (w2.putObj l (.loop { L with state := .exhausted })).heap[D]? = some (.deferred (some []))) ∧
        ∃ loc', St T' loc' M (w2.putObj l (.loop { L with state := .exhausted })).heap ∧ Upd (hotOf (S 0) loc) w (w2.putObj l (.loop { L with state := .exhausted })) ∧ (∀ b ∈ hotOf T' loc', b ∈ hotOf (S 0) loc ∨ w.heap.size ≤ b) ∧
          (∀ e ∈ T', e.r < 1 → curOf (S 0) loc e.id e.r = some (loc' e.id)) ∧ rd (curOf T' loc') (hotOf T' loc' ++ M) (w2.putObj l (.loop { L with state := .exhausted })).heap (.tup []) (.tuple #[]) := by
      rintro L T' ⟨_, loc3, hbl, hnd3, hob3, hsl3, hl3, hver3⟩ hbusy
      have hhot2 : hotOf [⟨0, 0, .abs (yH l)⟩, ⟨1, 1, .abs (match stopAt ok xs.length with | none => A xs.length | some k => Zs k)⟩] loc2 = hotOf T' loc3 ++ [l] := by
        simp [hotOf, hb0]
        simpa [hotOf] using hbl
      obtain ⟨w4, hw4⟩ : ∃ w4, w4 = w2.putObj l (.loop { L with state := .exhausted }) := ⟨_, rfl⟩
      rw [← hw4]
      have hrun := run_endLoop (P := P) hl3 hbusy
      rw [← hw4] at hrun
      have hsz4 : w4.heap.size = w2.heap.size := by rw [hw4]; exact putObj_size _ _ _
      have hoth4 : ∀ b, b ≠ l → w4.heap[b]? = w2.heap[b]? := fun b hb => by rw [hw4]; exact World.putObj_heap_other hb
      rw [hhot1] at hu
      have hlhot : l ∉ hotOf T' loc3 := by
        have := S2.bl
        rw [hhot2, List.nodup_append] at this
        exact fun hm => this.2.2 l hm l (by simp) rfl
      refine ⟨hrun, ⟨w.heap.size, rfl, Nat.le_refl _, ?_⟩, loc3, ?_, ?_, ?_, hver3, ?_⟩
      · rw [hoth4 _ (by omega), hu.blk _ (by omega) (fun h => by
          simp only [List.mem_append, List.mem_singleton] at h
          rcases h with h | h
          · have := hhotlt _ h; omega
          · omega)]
        exact hD1
      · have hsub : ∀ b ∈ hotOf T' loc3, b ∈ hotOf T' loc3 ++ [l] := fun b hb => List.mem_append_left _ hb
        have hd4 : ∀ (b : Nat) (o : Obj), isD o = true → w2.heap[b]? = some o → w4.heap[b]? = some o := by
          intro b o ho hb
          rw [hoth4 b (fun he => by subst he; rw [hl3] at hb; simp only [Option.some.injEq] at hb; subst hb; simp [isD] at ho)]
          exact hb
        refine ⟨hnd3, ?_, fun b hb => S2.ap b (by rw [hhot2]; exact hsub b hb), fun b hb => ?_, fun e he => ?_⟩
        · have := S2.bl
          rw [hhot2, List.nodup_append] at this
          exact this.1
        · rw [hsz4]
          refine S2.lt b ?_
          rw [hhot2]
          rcases List.mem_append.1 hb with hb | hb
          · exact List.mem_append_left _ (hsub b hb)
          · exact List.mem_append_right _ hb
        · have h3 := hob3 e he
          rw [hhot2] at h3
          refine ObjOK_weak (n := mxO e.obj) ⟨fun _ _ _ _ h => h, fun b o _ (h1 : isD o = true) h2 => hd4 b o h1 h2, fun b o hb (_ : isD o = true) _ hm => hb ?_⟩ (Nat.le_refl _) (fun b o hb ho => by rw [hoth4 b (fun h => hlhot (h ▸ mem_hot he hb))]; exact ho) h3
          rcases List.mem_append.1 hm with hm | hm
          · exact List.mem_append_left _ (hsub b hm)
          · exact List.mem_append_right _ hm
      · have U1 : Upd (hotOf (S 0) loc) w W1 := ⟨by rw [hW1]; rfl, by rw [hW1]; rfl, by rw [hW1]; rfl, by rw [hW1]; exact Nat.le_refl _, by omega, fun b hb _ => hold1 b hb⟩
        have U2 : Upd (hotOf (S 0) loc) w w2 := U1.trans hu (fun x hx => by
          simp only [List.mem_append, List.mem_singleton] at hx
          rcases hx with hx | hx
          · exact .inl hx
          · exact .inr (by omega))
        have U3 : Upd [l] w2 w4 := by
          rw [hw4]
          exact ⟨rfl, rfl, rfl, Nat.le_refl _, by rw [putObj_size]; exact Nat.le_refl _, fun b _ hb => World.putObj_heap_other (fun h => hb (by simp [h]))⟩
        exact U2.trans U3 (fun x hx => .inr (by simp only [List.mem_singleton] at hx; omega))
      · intro b hb
        have hbm : b ∈ hotOf [⟨0, 0, .abs (yH l)⟩, ⟨1, 1, .abs (match stopAt ok xs.length with | none => A xs.length | some k => Zs k)⟩] loc2 := by rw [hhot2]; exact List.mem_append_left _ hb
        rcases hnew b hbm with h | h
        · rw [hhot1] at h
          simp only [List.mem_append, List.mem_singleton] at h
          rcases h with h | h
          · exact .inl h
          · exact .inr (by omega)
        · exact .inr (by omega)
      · simp only [rd]; exact ⟨#[], rfl, by simp [rdV]⟩
    clear hnew hver
    cases hst : stopAt ok xs.length with
    | none =>
      rw [hst] at hT
      obtain ⟨rfl, rfl⟩ := hT
      have hk' : (A xs.length).J (hotOf [⟨0, 0, .abs (yH l)⟩, ⟨1, 1, .abs (match stopAt ok xs.length with | none => A xs.length | some k => Zs k)⟩] loc2 ++ M) (loc2 1).blks (loc2 1).hdr w2.heap := by
        have h := hk
        simp only [ObjOK] at h
        generalize hF : (match stopAt ok xs.length with | none => A xs.length | some k => Zs k) = F at h ⊢
        rw [hst] at hF
        simp only at hF
        subst hF
        exact h
      obtain ⟨h1, h2, h3⟩ := main rec _ hk' (by rw [hrec]; simp)
      refine ⟨_, _, h1, ?_⟩
      rw [hrec]
      simp only
      rw [hrec] at h2 h3
      exact ⟨trivial, h2, h3⟩
    | some k =>
      rw [hst] at hT
      obtain ⟨hj, rfl⟩ := hT
      have hk' : (Zs k).J (hotOf [⟨0, 0, .abs (yH l)⟩, ⟨1, 1, .abs (match stopAt ok xs.length with | none => A xs.length | some k => Zs k)⟩] loc2 ++ M) (loc2 1).blks (loc2 1).hdr w2.heap := by
        have h := hk
        simp only [ObjOK] at h
        generalize hF : (match stopAt ok xs.length with | none => A xs.length | some k => Zs k) = F at h ⊢
        rw [hst] at hF
        simp only at hF
        subst hF
        exact h
      obtain ⟨h1, h2, h3⟩ := main _ _ hk' (by simp)
      refine ⟨_, _, h1, ?_⟩
      simp only
      rcases hj with ⟨hj, rfl⟩ | ⟨id, hj, rfl⟩ | ⟨t, hj, rfl⟩
      · rw [hj] at h2 h3 ⊢; exact wpIn_ret ⟨rfl, h2, h3⟩
      · rw [hj] at h2 h3 ⊢; exact wpIn_exit ⟨rfl, h2, h3⟩
      · rw [hj] at h2 h3 ⊢; exact wpIn_goto ⟨rfl, h2, h3⟩

/-- THE STATEMENT. ρ: which own objects the loop may see (number, number); ν: what comes new; sl: the slots that it reads, in the rounds' names (version 0: kept through all rounds). -/
theorem DW_rangeFunc {P : Program} {B : Base} {Q : Exit → DS → Prop} {s : DS} {gt nt : Nat} {ps : Array Tmp} {assign body : Code} {f : FuncId} {us cs : List DVal} {xs : List (List DVal)} {ok : Nat → Bool} (ρ ν : List (Nat × Nat)) (sl : List (Nat × DVal)) (S Z : Nat → List Ent) (jc : Nat → Code) (T : List Ent) (e0 : Exit)
    (hI : ISpec P f us cs xs ok) (hB : B.nt = nt ∧ B.ro = none) (hsl : mxS sl ≤ 1) (hmx : mxL us = 0 ∧ mxL cs = 0) (hgt : (gt, .fn (.func f) us cs) ∈ sl) (hps : ∀ x ∈ xs, x.length = ps.size ∧ mxL x = 0) (hpn : ∀ p ∈ ps.toList, p < nt)
    (hpre : outE s.own (phiOf s.own (inRho ρ)) (inRho ρ) = some (S 0) ∧ inOK s.own ρ ∧ (okDs (sl.map fun p => getS s.slots p.1) ∧ wkA ((sl.map fun p => getS s.slots p.1).map (renD (phiOf s.own (inRho ρ)))) (sl.map (·.2))) ∧ (((ρ ++ ν).map (·.1)).Nodup ∧ (ρ.map (·.2)).Nodup))
    (round : ∀ k x, xs[k]? = some x → (∀ j, j < k → ok j = true) → ∀ B : Base, B.nt = nt → DW P B assign (RA P nt body (ok k) (if ok k then S (k + 1) else Z k) (jc k)) ⟨putM ps.toList x sl, S k⟩)
    (hT : match stopAt ok xs.length with | none => e0 = .normal ∧ T = S xs.length | some k => (jc k = .ret ∧ e0 = .ret ∨ (∃ id, jc k = .exit id ∧ e0 = .exit id) ∨ (∃ t, jc k = .goto t ∧ e0 = .goto t)) ∧ T = Z k)
    (hTo : okOs T)
    (hk : ∀ r, match backE (backOf s.own ρ ν r) T with
      | some l => ((frameE s.own ((ρ ++ ν).map (·.1)) ++ l).map (·.id)).Nodup ∧ Q e0 ⟨s.slots, frameE s.own ((ρ ++ ν).map (·.1)) ++ l⟩
      | none => False) : DW P B (.rangeFunc (.tmp gt) ps assign body) Q s := by
  intro a w loc R
  have h := hk (lim B s)
  split at h
  rotate_left
  · exact h.elim
  rename_i l hl
  obtain ⟨hnd, hQ⟩ := h
  have hC : ∀ vs w (R R' : Value → World → Prop), (∀ v w', R v w' → R' v w') → loopC P (.rangeFunc (.tmp gt) ps assign body) (sl.map (·.1)) nt e0 vs w R → loopC P (.rangeFunc (.tmp gt) ps assign body) (sl.map (·.1)) nt e0 vs w R' :=
    fun vs w R R' h hc a h1 h2 => wpIn_mono (hc a h1 h2) (fun e a' w' ⟨k1, k2, k3⟩ => ⟨k1, k2, h _ _ k3⟩)
  have hS := SpecC_of hC ρ ν (loop_spec hsl hI hmx hgt hps hpn round hT) hpre.1 hpre.2.1 hpre.2.2.1 hpre.2.2.2 hl hTo (by simp [okD, ok3s]) hnd
  have hlim : lim B s = max B.N (max (mxS s.slots) (mxE s.own)) := rfl
  have hw := hS B.M0 w loc ((sl.map fun p => a.tmps.getD p.1 Go.undef).toArray) (by omega) R.st (by
    have key : ∀ l : List (Nat × DVal), rdV (curOf s.own loc) (hotOf s.own loc ++ B.M0) w.heap (l.map fun p => getS s.slots p.1) (l.map fun p => a.tmps.getD p.1 Go.undef) := by
      intro l
      induction l with
      | nil => simp [rdV]
      | cons p l ih => simp only [List.map_cons, rdV]; exact ⟨_, _, rfl, R.sl p.1, ih⟩
    simpa using key sl) a (by simp) (by rw [R.nt]; exact hB.1)
  rw [hB.2]
  refine wpIn_mono hw ?_
  rintro e a' w' ⟨rfl, ⟨D, rfl, hD1, hD2⟩, loc', St', hu, hnew, hver, _⟩
  have R' := R.step (dst := none) (v := Go.undef) (d := .any) (n := lim B s) (by omega) (by omega) (fun i hi => by simp at hi) St' hu hnew hver (by simp [rd])
  refine ⟨_, loc', hQ, ⟨R'.st, R'.upd, R'.new, R'.ver, R'.sl, R'.nt, ?_⟩⟩
  obtain ⟨rs, h1, h2, h3, h4⟩ := R.df
  obtain ⟨rs', g1, g2, g3, g4⟩ := R'.df
  have hrs : ∀ r ∈ rs, r < w.heap.size := fun r hr => (Array.getElem?_eq_some_iff.1 (h3 r hr).1).1
  refine ⟨D :: rs, by simp [h1], ?_, ?_, fun h => absurd hB.2 h⟩
  · rw [List.nodup_cons]
    exact ⟨fun hm => by have := hrs D hm; omega, h2⟩
  · intro r hr
    rcases List.mem_cons.1 hr with rfl | hr
    · refine ⟨hD2, Nat.le_trans R.upd.size hD1, fun hm => ?_⟩
      rcases List.mem_append.1 hm with hm | hm
      · obtain ⟨e, he, hb⟩ := List.mem_flatMap.1 hm
        exact obj_nd (St'.ok e he) _ hb _ hD2
      · have := R.st.lt r (List.mem_append_right _ hm); omega
    · obtain ⟨k1, k2, k3⟩ := h3 r hr
      have hlt := hrs r hr
      refine ⟨?_, k2, fun hm => ?_⟩
      · rw [hu.blk r hlt (fun hm => k3 (List.mem_append_left _ hm))]; exact k1
      · rcases List.mem_append.1 hm with hm | hm
        · rcases hnew r hm with h | h
          · exact k3 (List.mem_append_left _ h)
          · omega
        · exact k3 (List.mem_append_right _ hm)

/-- a round, in an iterator's walk -/
def yOK (own : List Ent) (id r' l : Nat) (A : Abs) : Prop := match findE own id, findE own (id + 1) with
  | some e0, some e => e0.r = r' ∧ e0.obj = .abs (yH l) ∧ e.obj = .abs A
  | _, _ => False
theorem callY_mk {P : Program} {id r' l : Nat} {args : List DVal} {own : List Ent} {K : ContE} {A A' : Abs} {b : Bool} (hY : YAt P l A args b A') (hpre : yOK own id r' l A ∧ mxL args = 0)
    (hk : ∀ r, K.f (.bool b) (upE own (id + 1) r (.abs A'))) : callY P id r' args own K := by
  obtain ⟨h, hm⟩ := hpre
  unfold yOK at h
  split at h
  · rename_i e0 e h1 h2
    exact ⟨e0, l, e, A, A', b, h1, h.1, h.2.1, h2, h.2.2, hm, hY, hk⟩
  · exact h.elim

theorem stopAt_some {ok : Nat → Bool} : ∀ {n k : Nat}, k < n → (∀ j, j < k → ok j = true) → ok k = false → stopAt ok n = some k
  | n + 1, k, hk, hj, ho => by
    simp only [stopAt]
    by_cases h : k < n
    · rw [stopAt_some h hj ho]
    · have : k = n := by omega
      subst this
      have : stopAt ok k = none := by
        have key : ∀ m, m ≤ k → stopAt ok m = none := by
          intro m
          induction m with
          | zero => intro _; rfl
          | succ m ih => intro hm; simp only [stopAt, ih (by omega), hj m (by omega), if_true]
        exact key k (Nat.le_refl _)
      rw [this, ho]; rfl
theorem stopAt_none {ok : Nat → Bool} : ∀ {n : Nat}, (∀ j, j < n → ok j = true) → stopAt ok n = none
  | 0, _ => rfl
  | n + 1, hj => by simp only [stopAt, stopAt_none (n := n) (fun j h => hj j (by omega)), hj n (by omega), if_true]
theorem stopAt_inv {ok : Nat → Bool} : ∀ {n : Nat}, (∃ k, k < n ∧ stopAt ok n = some k ∧ ok k = false ∧ ∀ j, j < k → ok j = true) ∨ (stopAt ok n = none ∧ ∀ j, j < n → ok j = true)
  | 0 => .inr ⟨rfl, fun j h => by omega⟩
  | n + 1 => by
    rcases stopAt_inv (ok := ok) (n := n) with ⟨k, h1, h2, h3, h4⟩ | ⟨h1, h2⟩
    · exact .inl ⟨k, by omega, by simp only [stopAt, h2], h3, h4⟩
    · cases h : ok n with
      | true => exact .inr ⟨by simp only [stopAt, h1, h, if_true], fun j hj => by
          by_cases hjn : j = n
          · subst hjn; exact h
          · exact h2 j (by omega)⟩
      | false => exact .inl ⟨n, by omega, by simp only [stopAt, h1, h]; rfl, h, h2⟩
attribute [simp] yOK RA RQ putM
end Go.Dm
