/- The data machine, second make, part W: a range over a function: its rounds, the loop's own state as a thing of which the iterator knows no more than that it can be called. -/
import Derived.Test.YtihkcegelghcpaaEnV
set_option linter.unusedSimpArgs false
set_option linter.unusedVariables false
namespace Go.Dm

theorem obj_nd {cur : Cur} {M : List Nat} {h : Array Obj} {l : Loc} {obj : DObj} (hk : ObjOK cur M h l obj) : ∀ b ∈ l.blks, ∀ c, h[b]? ≠ some (.deferred c) := by
  intro b hb c hc
  cases obj with
  | box cs =>
    obtain ⟨b', arr, ty, h1, h2, _⟩ := hk
    rw [h1] at hb
    simp only [List.mem_singleton] at hb
    subst hb
    rw [h2] at hc; simp at hc
  | row et k bs es =>
    obtain ⟨_, ⟨_, h1, _⟩ | ⟨b', arr, cap, h1, h2, h3, _⟩⟩ := hk
    · rw [h1] at hb; cases hb
    · rw [h1] at hb
      simp only [List.mem_singleton] at hb
      subst hb
      rw [h3] at hc; simp at hc
  | map ks vs =>
    obtain ⟨b', es, clk, h1, h2, _⟩ := hk
    rw [h1] at hb
    simp only [List.mem_singleton] at hb
    subst hb
    rw [h2] at hc; simp at hc
  | abs A => exact A.nd _ _ _ _ hk b hb c hc

/-- A LOOP's STATE: its record lies at l and says L; the activation's own objects are 'own', its slots (at the loop's head) read as 'sl'; what was of version 0 at the head lies where it lay. -/
def AbsL (sl : List (Nat × DVal)) (hsl : mxS sl ≤ 1) (own : List Ent) (tm : Array Value) (own0 : List Ent) (loc0 : Nat → Loc) (l : Nat) (L : Loop) : Abs where
  J := fun M bl hd h => hd = .func (.yield l) #[] #[] ∧ ∃ loc, bl = hotOf own loc ++ [l] ∧ (own.map (·.id)).Nodup ∧ (∀ e ∈ own, ObjOK (curOf own loc) M h (loc e.id) e.obj) ∧
    (∀ p ∈ sl, rd (curOf own loc) M h p.2 (tm.getD p.1 Go.undef)) ∧ h[l]? = some (.loop L) ∧ (∀ e ∈ own, e.r < 1 → curOf own0 loc0 e.id e.r = some (loc e.id))
  weak := by
    rintro M M' bl hd h h' hb hm hk ⟨h1, loc, h2, h3, h4, h5, h6, h7⟩
    have W : ∀ n, Weak (curOf own loc) (curOf own loc) M M' h h' n := fun n => ⟨fun _ _ _ _ h => h, hb, hm⟩
    refine ⟨h1, loc, h2, h3, fun e he => ObjOK_weak (W _) (Nat.le_refl _) (fun b o hb' ho => hk b o ?_ ho) (h4 e he), fun p hp => rd_weak (W _) _ _ (Nat.le_refl _) (h5 p hp), hk l _ ?_ h6, h7⟩
    · rw [h2]; exact List.mem_append_left _ (mem_hot he hb')
    · rw [h2]; simp
  one := by rintro _ _ _ _ ⟨rfl, _⟩; exact ⟨rfl, rfl⟩
  nd := by
    rintro M bl hd h ⟨_, loc, rfl, _, h4, _, h6, _⟩ b hb c hc
    rcases List.mem_append.1 hb with hb | hb
    · obtain ⟨e, he, hb⟩ := List.mem_flatMap.1 hb
      exact obj_nd (h4 e he) b hb c hc
    · simp only [List.mem_singleton] at hb
      subst hb
      rw [h6] at hc; simp at hc

/-- slots written, one behind the other -/
def putM : List Nat → List DVal → List (Nat × DVal) → List (Nat × DVal)
  | p :: ps, d :: ds, l => putM ps ds ((p, d) :: l)
  | _, _, l => l

theorem size_zipset : ∀ (z : List (Nat × Value)) (t : Array Value), (z.foldl (fun t p => t.setIfInBounds p.1 p.2) t).size = t.size
  | [], t => rfl
  | p :: z, t => by rw [List.foldl_cons, size_zipset z]; simp

theorem putM_rd {cur : Cur} {M : List Nat} {h : Array Obj} : ∀ (ps : List Nat) (ds : List DVal) (vs : List Value) (l : List (Nat × DVal)) (t : Array Value), ds.length = ps.length → (∀ p ∈ ps, p < t.size) → rdV cur M h ds vs →
    (∀ i, rd cur M h (getS l i) (t.getD i Go.undef)) → ∀ i, rd cur M h (getS (putM ps ds l) i) (((ps.zip vs).foldl (fun t p => t.setIfInBounds p.1 p.2) t).getD i Go.undef)
  | [], ds, vs, l, t, hl, hp, hr, hs => by
    cases ds with
    | nil => simpa [putM] using hs
    | cons d ds => simp at hl
  | p :: ps, [], vs, l, t, hl, hp, hr, hs => by simp at hl
  | p :: ps, d :: ds, vs, l, t, hl, hp, hr, hs => by
    simp only [rdV] at hr
    obtain ⟨v, r, rfl, h1, h2⟩ := hr
    simp only [putM, List.zip_cons_cons, List.foldl_cons]
    refine putM_rd ps ds r _ _ (by simpa using hl) (fun q hq => by simpa using hp q (List.mem_cons_of_mem _ hq)) h2 ?_
    intro i
    have hlt := hp p List.mem_cons_self
    simp only [getS, Array.getD_eq_getD_getElem?, Array.getElem?_setIfInBounds]
    by_cases hi : i = p
    · subst hi; simpa [hlt] using h1
    · rw [if_neg hi, if_neg (fun h => hi h.symm)]
      have := hs i
      simpa [Array.getD_eq_getD_getElem?] using this

theorem getS_mem : ∀ (l : List (Nat × DVal)) (i : Nat), getS l i = .any ∨ (i, getS l i) ∈ l
  | [], i => .inl rfl
  | (j, d) :: l, i => by
    simp only [getS]
    split
    · rename_i h; subst h; exact .inr (by simp)
    · exact (getS_mem l i).imp id (fun h => List.mem_cons_of_mem _ h)

/-- how a round's jump is taken behind the loop -/
def jumpE : Code → Exit
  | .ret => .ret
  | .exit id => .exit id
  | .goto t => .goto t
  | _ => .normal
/-- A ROUND's END. -/
def RQ (B : Base) (okk : Bool) (S : List Ent) (j : Code) : Exit → DS → Prop
  | .normal, s => okk = true ∧ Sub B ⟨[], s.own⟩ ⟨[], S⟩
  | .ret, s => okk = false ∧ j = .ret ∧ Sub B ⟨[], s.own⟩ ⟨[], S⟩
  | .exit id, s => okk = false ∧ j = .exit id ∧ Sub B ⟨[], s.own⟩ ⟨[], S⟩
  | .goto t, s => okk = false ∧ j = .goto t ∧ Sub B ⟨[], s.own⟩ ⟨[], S⟩
  | _, _ => False
/-- behind the assignment to the loop's left sides -/
def RB (P : Program) (nt : Nat) (body : Code) (okk : Bool) (S : List Ent) (j : Code) (s : DS) : Prop := ∀ B : Base, B.nt = nt → DW P B body (RQ B okk S j) s
theorem RB_mk {P : Program} {nt : Nat} {body : Code} {okk : Bool} {S : List Ent} {j : Code} {s : DS} (h : ∀ B : Base, B.nt = nt → DW P B body (RQ B okk S j) s) : RB P nt body okk S j s := h
def RA (P : Program) (nt : Nat) (body : Code) (okk : Bool) (S : List Ent) (j : Code) : Exit → DS → Prop
  | .normal, s => RB P nt body okk S j s
  | _, _ => False

/-- data read on in a later memory -/
theorem chain_weak {own own' : List Ent} {loc loc' : Nat → Loc} {M M' : List Nat} {h h' : Array Obj} {n : Nat} (hc : ∀ e ∈ own', e.r < n → curOf own loc e.id e.r = some (loc' e.id)) (hb : ∀ (b : Nat) (o : Obj), b ∉ M → isD o = true → h[b]? = some o → h'[b]? = some o)
    (hm : ∀ b ∈ M', b ∈ M ∨ h.size ≤ b) : Weak (curOf own loc) (curOf own' loc') M M' h h' n where
  c := by
    intro id r l hr hl
    obtain ⟨e, he, rfl, rfl, rfl⟩ := curOf_some hl
    exact hc e he hr
  b := hb
  m := by
    intro b o hb' _ ho hm'
    rcases hm b hm' with h1 | h1
    · exact hb' h1
    · have := (Array.getElem?_eq_some_iff.1 ho).1; omega

theorem putObj_size (w : World) (l : Nat) (o : Obj) : (w.putObj l o).heap.size = w.heap.size := by simp [World.putObj]

/-- ONE ROUND: the record was ready; the left sides are assigned, the body walked. -/
theorem YAt_of {P : Program} {sl : List (Nat × DVal)} {hsl : mxS sl ≤ 1} {own S : List Ent} {tm : Array Value} {own0 : List Ent} {loc0 : Nat → Loc} {l nt : Nat} {L : Loop} {x : List DVal} {okk : Bool} {j : Code}
    (hL : L.state = .ready) (hLp : L.pending = none) (hLt : L.tmps = tm) (hnt : tm.size = nt) (hx : x.length = L.params.size) (hps : ∀ p ∈ L.params.toList, p < nt) (hx0 : mxL x = 0)
    (h : ∀ B : Base, B.nt = nt → DW P B L.assign (RA P nt L.body okk S j) ⟨putM L.params.toList x sl, own⟩) :
    YAt P l (AbsL sl hsl own tm own0 loc0 l L) x okk (AbsL sl hsl S tm own0 loc0 l { L with state := if okk then .ready else .done, pending := if okk then none else some j }) := by
  rintro M bl hd w vs hnd hblM hMlt ⟨rfl, loc, rfl, hidn, hobj, hslot, hrec, hver0⟩ hvs
  have hlM : l ∈ M := hblM l (by simp)
  have hlhot : l ∉ hotOf own loc := by
    intro hm
    rw [List.nodup_append] at hnd
    exact hnd.2.2 l hm l (by simp) rfl
  have hhotM : ∀ b ∈ hotOf own loc, b ∈ M := fun b hb => hblM b (List.mem_append_left _ hb)
  have hlen := rdV_length _ _ hvs
  simp only [Array.length_toList] at hlen
  have hy := run_yield (P := P) (args := vs) hrec (by omega)
  -- the base of the assignment
  let M0 : List Nat := M.filter (fun b => !(hotOf own loc).contains b)
  have hM0 : ∀ b, b ∈ M0 ↔ b ∈ M ∧ b ∉ hotOf own loc := by
    intro b
    simp only [M0, List.mem_filter, List.contains_eq_mem, Bool.not_eq_true', decide_eq_false_iff_not]
  have hMM : ∀ b, b ∈ hotOf own loc ++ M0 ↔ b ∈ M := by
    intro b
    rw [List.mem_append, hM0]
    constructor
    · rintro (h | h)
      · exact hhotM b h
      · exact h.1
    · intro h
      by_cases hb : b ∈ hotOf own loc
      · exact .inl hb
      · exact .inr ⟨h, hb⟩
  have W0 : ∀ n, Weak (curOf own loc) (curOf own loc) M (hotOf own loc ++ M0) w.heap w.heap n := fun n =>
    ⟨fun _ _ _ _ h => h, fun b o _ (_ : isD o = true) ho => ho, fun b o hb (_ : isD o = true) _ hm => hb ((hMM b).1 hm)⟩
  let B1 : Base := ⟨own, loc, M0, 1, w, nt, some l, by decide⟩
  let a1 : Act := { tmps := (L.params.zip vs).foldl (fun tmps (t, a) => tmps.setIfInBounds t a) L.tmps, defers := [] }
  have hfold : a1.tmps = (L.params.toList.zip vs.toList).foldl (fun t p => t.setIfInBounds p.1 p.2) tm := by
    show (L.params.zip vs).foldl _ _ = _
    rw [← Array.foldl_toList, Array.toList_zip, hLt]
  have R1 : Rel B1 ⟨putM L.params.toList x sl, own⟩ a1 w loc := by
    refine ⟨⟨hidn, ?_, fun b hb hm => ((hM0 b).1 hm).2 hb, fun b hb => hMlt b ((hMM b).1 hb), fun e he => ObjOK_weak (W0 _) (Nat.le_refl _) (fun _ _ _ h => h) (hobj e he)⟩, Upd.refl _ _, fun b hb => .inl hb, fun e he _ => curOf_self hidn he, ?_, ?_, ⟨[], rfl, List.nodup_nil, by simp⟩⟩
    · rw [List.nodup_append] at hnd; exact hnd.1
    · intro i
      rw [hfold]
      refine putM_rd _ _ _ _ _ (by simpa using hx) (fun p hp => by rw [hnt]; exact hps p hp) ?_ ?_ i
      · exact rdV_weak (n := 0) ⟨fun _ _ _ h => by omega, fun b o _ (_ : isD o = true) ho => ho, fun b o hb (_ : isD o = true) _ hm => hb ((hMM b).1 hm)⟩ _ _ (Nat.le_of_eq hx0) hvs
      · intro q
        rcases getS_mem sl q with h1 | h1
        · rw [h1]; simp [rd]
        · exact rd_weak (W0 _) _ _ (Nat.le_refl _) (hslot _ h1)
    · rw [hfold, size_zipset]; exact hnt
  refine ⟨L.fn, _, L.assign, L.body, hy, roundIn_of_wpIn (F := wd none) trivial ?_⟩
  refine wpIn_mono (h B1 rfl a1 w loc R1) ?_
  rintro e a' w' ⟨s', loc', hq, R'⟩
  cases e <;> simp only [RA] at hq <;> first
    | exact hq.elim
    | skip
  -- the record lies as it lay
  have hl0 : w'.heap[l]? = some (.loop L) := by
    rw [R'.upd.blk l (Array.getElem?_eq_some_iff.1 hrec).1 hlhot]; exact hrec
  have hllt : l < w'.heap.size := (Array.getElem?_eq_some_iff.1 hl0).1
  refine ⟨w'.putObj l (.loop { L with state := .busy }), run_beginRound hl0 hL, ?_⟩
  obtain ⟨w2, hw2⟩ : ∃ w2, w2 = w'.putObj l (.loop { L with state := .busy }) := ⟨_, rfl⟩
  rw [← hw2]
  have hsz2 : w2.heap.size = w'.heap.size := by rw [hw2]; exact putObj_size _ _ _
  have hoth : ∀ b, b ≠ l → w2.heap[b]? = w'.heap[b]? := fun b hb => by rw [hw2]; exact World.putObj_heap_other hb
  have hlb : w2.heap[l]? = some (.loop { L with state := .busy }) := by rw [hw2]; exact World.putObj_heap_same hllt
  have hlM0 : l ∈ M0 := (hM0 l).2 ⟨hlM, hlhot⟩
  have hlhot' : l ∉ hotOf s'.own loc' := fun hm => R'.st.ap l hm hlM0
  have hd2 : ∀ (b : Nat) (o : Obj), isD o = true → w'.heap[b]? = some o → w2.heap[b]? = some o := by
    intro b o ho hb
    rw [hoth b (fun he => by subst he; rw [hl0] at hb; simp only [Option.some.injEq] at hb; subst hb; simp [isD] at ho)]
    exact hb
  have St2 : St s'.own loc' M0 w2.heap := R'.st.same (Nat.le_of_eq hsz2.symm) hd2 (fun b o hm hb => by rw [hoth b (fun he => hlhot' (he ▸ hm))]; exact hb)
  have W2 : ∀ n, Weak (curOf s'.own loc') (curOf s'.own loc') (hotOf s'.own loc' ++ M0) (hotOf s'.own loc' ++ M0) w'.heap w2.heap n := fun n =>
    ⟨fun _ _ _ _ h => h, fun b o _ (h1 : isD o = true) h2 => hd2 b o h1 h2, fun b o hb (_ : isD o = true) _ => hb⟩
  let B2 : Base := ⟨s'.own, loc', M0, 1, w2, nt, some l, by decide⟩
  obtain ⟨rs, hrs, _, _, hrs2⟩ := R'.df
  have hz : rs = [] := hrs2 (by simp [B1])
  let B2 : Base := ⟨s'.own, loc', M0, 1, w2, nt, some l, by decide⟩
  have R2 : Rel B2 s' a' w2 loc' :=
    ⟨St2, Upd.refl _ _, fun b hb => .inl hb, fun e he _ => curOf_self St2.nd he, fun i => rd_weak (W2 _) _ _ (Nat.le_refl _) (R'.sl i), R'.nt, ⟨[], by rw [hz] at hrs; simpa using hrs, List.nodup_nil, by simp⟩⟩
  refine wpIn_mono (hq B2 rfl a' w2 loc' R2) ?_
  rintro e a2 w3 ⟨s3, loc3, hq3, R3⟩
  have hl3 : w3.heap[l]? = some (.loop { L with state := .busy }) := by
    rw [R3.upd.blk l (Array.getElem?_eq_some_iff.1 hlb).1 hlhot']; exact hlb
  have fin : ∀ (jump : Option Code), Sub B2 ⟨[], s3.own⟩ ⟨[], S⟩ → jump.isNone = okk → jump = (if okk then none else some j) → ∃ v w4, (Instr.endRound l jump).run P w3 = .ok v w4 ∧ ∃ v0, Ending.returned v = .returned v0 ∧ v0 = .bool okk ∧ ∃ bl', Upd (hotOf own loc ++ [l]) w w4 ∧ bl'.Nodup ∧ (∀ q ∈ bl', q < w4.heap.size ∧ (q ∈ hotOf own loc ++ [l] ∨ w.heap.size ≤ q)) ∧
      ∀ M', (∀ q ∈ M', q ∈ bl' ∨ (q ∈ M ∧ q ∉ hotOf own loc ++ [l])) → (AbsL sl hsl S tm own0 loc0 l { L with state := if okk then .ready else .done, pending := if okk then none else some j }).J M' bl' (.func (.yield l) #[] #[]) w4.heap := by
    intro jump hsub hj1 hj2
    have hrun := run_endRound (P := P) jump hl3
    have hrec' : ({ ({ L with state := .busy } : Loop) with state := if jump.isNone then .ready else .done, pending := jump } : Loop) = { L with state := if okk then .ready else .done, pending := if okk then none else some j } := by
      rw [hj1, hj2]
    rw [hrec', hj1] at hrun
    obtain ⟨w4, hw4⟩ : ∃ w4, w4 = w3.putObj l (.loop { L with state := if okk then .ready else .done, pending := if okk then none else some j }) := ⟨_, rfl⟩
    rw [← hw4] at hrun
    have hl3lt := (Array.getElem?_eq_some_iff.1 hl3).1
    have hsz4 : w4.heap.size = w3.heap.size := by rw [hw4]; exact putObj_size _ _ _
    have hoth4 : ∀ b, b ≠ l → w4.heap[b]? = w3.heap[b]? := fun b hb => by rw [hw4]; exact World.putObj_heap_other hb
    have hl4 : w4.heap[l]? = some (.loop { L with state := if okk then .ready else .done, pending := if okk then none else some j }) := by rw [hw4]; exact World.putObj_heap_same hl3lt
    have R3' : Rel B2 ⟨[], s3.own⟩ a2 w3 loc3 := ⟨R3.st, R3.upd, R3.new, R3.ver, fun i => by simp [getS, rd], R3.nt, R3.df⟩
    obtain ⟨loc4, R4⟩ := hsub a2 w3 loc3 R3'
    have hl4hot : l ∉ hotOf S loc4 := fun hm => R4.st.ap l hm hlM0
    have uput : ∀ (v : World) (o : Obj), Upd [l] v (v.putObj l o) := fun v o => ⟨rfl, rfl, rfl, Nat.le_refl _, by rw [putObj_size]; exact Nat.le_refl _, fun b _ hb => World.putObj_heap_other (fun h => hb (by simp [h]))⟩
    have U1 : Upd (hotOf own loc ++ [l]) w w' := (Upd.refl _ w).trans R'.upd (fun x hx => .inl (List.mem_append_left _ hx))
    have U2 : Upd (hotOf own loc ++ [l]) w w2 := by rw [hw2]; exact U1.trans (uput _ _) (fun x hx => .inl (List.mem_append_right _ hx))
    have U3 : Upd (hotOf own loc ++ [l]) w w3 := U2.trans R4.upd (fun x hx => (R'.new x hx).imp (fun h => List.mem_append_left _ h) id)
    have U4 : Upd (hotOf own loc ++ [l]) w w4 := by rw [hw4]; exact U3.trans (uput _ _) (fun x hx => .inl (List.mem_append_right _ hx))
    have hbl : ∀ q ∈ hotOf S loc4, q < w4.heap.size ∧ (q ∈ hotOf own loc ++ [l] ∨ w.heap.size ≤ q) := by
      intro q hq
      refine ⟨by rw [hsz4]; exact R4.st.lt q (List.mem_append_left _ hq), ?_⟩
      rcases R4.new q hq with h | h
      · exact (R'.new q h).imp (fun h => List.mem_append_left _ h) id
      · exact .inr (Nat.le_trans U2.size h)
    refine ⟨_, w4, hrun, _, rfl, rfl, hotOf S loc4 ++ [l], U4, ?_, ?_, ?_⟩
    · rw [List.nodup_append]
      exact ⟨R4.st.bl, by simp, fun b hb b' hb' hbb => hl4hot (by simp only [List.mem_singleton] at hb'; rw [← hb', ← hbb]; exact hb)⟩
    · intro q hq
      rcases List.mem_append.1 hq with hq | hq
      · exact hbl q hq
      · simp only [List.mem_singleton] at hq
        subst hq
        exact ⟨by rw [hsz4]; exact hl3lt, .inl (by simp)⟩
    · intro M' hM'
      have hchain : ∀ e ∈ S, e.r < 1 → curOf own loc e.id e.r = some (loc4 e.id) := by
        intro e he hlt
        obtain ⟨e1, h1, h2, h3, h4⟩ := curOf_some (R4.ver e he hlt)
        have h5 := R'.ver e1 h1 (by show e1.r < 1; omega)
        rw [h2, h3] at h5
        rw [h4]; exact h5
      have hinM : ∀ b ∈ M', b ∈ hotOf S loc4 ++ M0 := by
        intro b hb
        rcases hM' b hb with h | ⟨h1, h2⟩
        · rcases List.mem_append.1 h with h | h
          · exact List.mem_append_left _ h
          · simp only [List.mem_singleton] at h
            subst h
            exact List.mem_append_right _ hlM0
        · exact List.mem_append_right _ ((hM0 b).2 ⟨h1, fun h => h2 (List.mem_append_left _ h)⟩)
      have hd4 : ∀ (b : Nat) (o : Obj), isD o = true → w3.heap[b]? = some o → w4.heap[b]? = some o := by
        intro b o ho hb
        rw [hoth4 b (fun he => by subst he; rw [hl3] at hb; simp only [Option.some.injEq] at hb; subst hb; simp [isD] at ho)]
        exact hb
      have W4 : ∀ n, Weak (curOf S loc4) (curOf S loc4) (hotOf S loc4 ++ M0) M' w3.heap w4.heap n := fun n =>
        ⟨fun _ _ _ _ h => h, fun b o _ (h1 : isD o = true) h2 => hd4 b o h1 h2, fun b o hb (_ : isD o = true) _ hm => hb (hinM b hm)⟩
      have W5 : Weak (curOf own loc) (curOf S loc4) M M' w.heap w4.heap 1 := by
        refine chain_weak hchain (fun b o hb _ ho => ?_) (fun b hb => ?_)
        · rw [U4.blk b (Array.getElem?_eq_some_iff.1 ho).1 (fun h => hb (hblM b h))]; exact ho
        · rcases hM' b hb with h | ⟨h1, _⟩
          · rcases List.mem_append.1 h with h | h
            · exact (hbl b h).2.imp (hblM b) id
            · simp only [List.mem_singleton] at h
              subst h
              exact .inl hlM
          · exact .inl h1
      refine ⟨rfl, loc4, rfl, R4.st.nd, fun e he => ?_, fun p hp => ?_, hl4, fun e he hlt => ?_⟩
      · exact ObjOK_weak (W4 _) (Nat.le_refl _) (fun b o hb ho => by rw [hoth4 b (fun h => hl4hot (h ▸ mem_hot he hb))]; exact ho) (R4.st.ok e he)
      · refine rd_weak W5 _ _ (Nat.le_trans ?_ hsl) (hslot p hp)
        have : ∀ (l : List (Nat × DVal)), p ∈ l → mx p.2 ≤ mxS l := by
          intro l
          induction l with
          | nil => intro h; cases h
          | cons q l ih =>
            intro h
            simp only [mxS]
            rcases List.mem_cons.1 h with rfl | h
            · omega
            · have := ih h; omega
        exact this sl hp
      · obtain ⟨e1, h1, h2, h3, h4⟩ := curOf_some (hchain e he hlt)
        have h5 := hver0 e1 h1 (by omega)
        rw [h2, h3] at h5
        rw [h4]; exact h5
  cases e <;> simp only [RQ] at hq3 <;> simp only [roundPost]
  · obtain ⟨rfl, hs⟩ := hq3
    exact fin none hs rfl rfl
  · obtain ⟨rfl, rfl, hs⟩ := hq3
    exact fin _ hs rfl rfl
  · obtain ⟨rfl, rfl, hs⟩ := hq3
    exact fin _ hs rfl rfl
  · obtain ⟨rfl, rfl, hs⟩ := hq3
    exact fin _ hs rfl rfl
end Go.Dm
