/- Parts of a proof, laid together: EvN. -/
import Derived.RangeFuncNested
import Derived.Test.YtedjakmhhlilaaaGreatqGx19
set_option linter.unusedSimpArgs false
set_option linter.unusedVariables false
set_option linter.unusedSectionVars false
section
namespace Go.Dm
variable [DMode]
def putP : List Nat → List DVal → List (Nat × DVal) → List (Nat × DVal)
 | p :: ps, d :: ds, l => putP ps ds (putS l (some p) d)
 | _, _, l => l
theorem size_zipP : ∀ (z : List (Nat × Value)) (t : Array Value), (z.foldl (fun t p => t.setIfInBounds p.1 p.2) t).size = t.size
 | [], t => rfl
 | p :: z, t => by rw [List.foldl_cons, size_zipP z]; simp
theorem putP_rd {cur : Cur} {M : List Nat} {h : Array Obj} : ∀ (ps : List Nat) (ds : List DVal) (vs : List Value) (l : List (Nat × DVal)) (t : Array Value), ds.length = ps.length → (∀ p ∈ ps, p < t.size) → rdV cur M h ds vs →
  (∀ i, rd cur M h (getS l i) (t.getD i Go.undef)) → ∀ i, rd cur M h (getS (putP ps ds l) i) (((ps.zip vs).foldl (fun t p => t.setIfInBounds p.1 p.2) t).getD i Go.undef)
 | [], ds, vs, l, t, hl, hp, hr, hs => by
  cases ds with
  | nil => simpa [putP] using hs
  | cons d ds => simp at hl
 | p :: ps, [], vs, l, t, hl, hp, hr, hs => by simp at hl
 | p :: ps, d :: ds, vs, l, t, hl, hp, hr, hs => by
  simp only [rdV] at hr
  obtain ⟨v, r, rfl, h1, h2⟩ := hr
  simp only [putP, List.zip_cons_cons, List.foldl_cons]
  refine putP_rd ps ds r _ _ (by simpa using hl) (fun q hq => by simpa using hp q (List.mem_cons_of_mem _ hq)) h2 ?_
  intro i
  have hlt := hp p List.mem_cons_self
  simp only [putS, getS, Array.getD_eq_getD_getElem?, Array.getElem?_setIfInBounds]
  by_cases hi : i = p
  ·subst hi; simpa [hlt] using h1
  ·rw [if_neg hi, if_neg (fun h => hi h.symm)]
   have := hs i
   simpa [Array.getD_eq_getD_getElem?] using this
theorem mxS_putP : ∀ (ps : List Nat) (ds : List DVal) (l : List (Nat × DVal)), mxS (putP ps ds l) ≤ max (mxL ds) (mxS l)
 | [], ds, l => by cases ds <;> simp only [putP] <;> omega
 | p :: ps, [], l => by simp only [putP]; omega
 | p :: ps, d :: ds, l => by
  simp only [putP, mxL]
  have h1 := mxS_putP ps ds (putS l (some p) d)
  have h2 := mxS_putS l (some p) d
  omega
section
variable {P : Program} {B : Base} {s : DS} {a : Act} {w : World} {loc : Nat → Loc}
theorem Rel.turnRec {id v n : Nat} {e : Ent} {st : LSt} (st' : LSt) {sl : Sl} {nt : Nat} {ps : Array Tmp} {assign body : Code} (R : Rel B s a w loc) (he : findE s.own id = some e) (her : e.r = v) (hob : e.obj = .lrec st sl nt ps assign body) (hn : lim B s ≤ n) :
  ∃ b fn tm df, (loc id).blks = [b] ∧ (loc id).hdr = .func (.yield b) #[] #[] ∧ w.heap[b]? = some (.loop { state := st.s, pending := st.p, fn, tmps := tm, params := ps, assign, body, defers := df }) ∧
   Rel B ⟨s.slots, upE s.own id v (.lrec st' sl nt ps assign body)⟩ a (w.putObj b (.loop { state := st'.s, pending := st'.p, fn, tmps := tm, params := ps, assign, body, defers := df })) (upL loc id (loc id)) := by
 obtain ⟨hmem, hid⟩ := findE_ent he
 have hk := R.st.ok e hmem
 rw [hob, hid] at hk
 obtain ⟨b, fn, tm, df, h1, h2, h3, h4, h5⟩ := hk
 refine ⟨b, fn, tm, df, h1, h2, h3, ?_⟩
 have hcur : curOf s.own loc id v = some (loc id) := by unfold curOf; rw [he]; simp [her]
 have hb1 : b ∈ (loc id).blks := by rw [h1]; simp
 have hblt := (Array.getElem?_eq_some_iff.1 h3).1
 obtain ⟨o', ho'⟩ : ∃ o', o' = Obj.loop { state := st'.s, pending := st'.p, fn, tmps := tm, params := ps, assign, body, defers := df } := ⟨_, rfl⟩
 rw [← ho']
 have hoth : ∀ b0, b0 ≠ b → (w.putObj b o').heap[b0]? = w.heap[b0]? := fun b0 hb => World.putObj_heap_other hb
 have hsz : (w.putObj b o').heap.size = w.heap.size := by simp [World.putObj]
 have hsame : (w.putObj b o').heap[b]? = some o' := World.putObj_heap_same hblt
 have hw : Upd (hotOf s.own loc) w (w.putObj b o') :=
  ⟨rfl, rfl, rfl, fun _ => Nat.le_refl _, by omega, fun b0 _ hn0 => hoth b0 (fun h => hn0 (h ▸ mem_hot hmem (by rw [hid]; exact hb1)))⟩
 have hL : ∀ b0, b0 ∈ (loc id).blks → b0 < (w.putObj b o').heap.size ∧ ((∃ e ∈ s.own, e.id = id ∧ b0 ∈ (loc id).blks) ∨ w.heap.size ≤ b0) := by
  intro b0 hb0
  refine ⟨?_, .inl ⟨e, hmem, hid, hb0⟩⟩
  rw [h1] at hb0
  simp only [List.mem_singleton] at hb0
  subst hb0
  omega
 have W := R.weakUp (obj := .lrec st' sl nt ps assign body) hn hw hL (.inr hcur)
 have hmO := (mem_mxE hmem).2
 rw [hob] at hmO
 simp only [mxO] at hmO
 unfold lim at hn
 have := R.up (hLn := by rw [h1]; simp) (dst := none) (v := Go.undef) (d := .any) (n := n) (by unfold lim; exact hn) (fun i hi => by simp at hi) hw (fun b0 hb0 hne => hoth b0 (fun h => hne e hmem hid (by rw [h]; exact hb1))) hL (.inr hcur)
  (obj := .lrec st' sl nt ps assign body) ⟨b, fn, tm, df, h1, h2, by rw [hsame, ho'], h4, fun i => rd_weak W _ _ (by have := mx_sget sl i; omega) (h5 i)⟩ (by simp [rd])
 exact this
def YSpecF (P : Program) (id v : Nat) (args : List DVal) (own : List Ent) (r : Nat) (d : DVal) (own' : List Ent) (r' : Nat) : Prop :=
 (mxE own ≤ r → mxL args ≤ r → r ≤ r' ∧ mx d ≤ r' ∧ mxE own' ≤ r') ∧
 ∀ (M : List Nat) (w : World) (loc : Nat → Loc) (vs : Array Value), mxE own ≤ r → mxL args ≤ r → St own loc M w.heap → rdV (curOf own loc) (hotOf own loc ++ M) w.heap args vs.toList →
  ∃ b, curOf own loc id v = some (loc id) ∧ (loc id).hdr = .func (.yield b) #[] #[] ∧ FCalls P (.yield b) vs w fun v w' => ∃ loc', St own' loc' M w'.heap ∧ Upd (hotOf own loc) w w' ∧ (∀ b ∈ hotOf own' loc', b ∈ hotOf own loc ∨ w.heap.size ≤ b) ∧
   (∀ e ∈ own', e.r < r → curOf own loc e.id e.r = some (loc' e.id)) ∧ rd (curOf own' loc') (hotOf own' loc' ++ M) w'.heap d v
theorem yieldF_sem {o : Oper} {c : Call} {f : Operand} {id v : Nat} {ed : Operand → DVal} {own : List Ent} {r : Nat} {d : DVal} {own' : List Ent} {r' : Nat} (ho : o.op = .call c) (hcal : c.callee = .value f) (hf : ed f = .pk id v)
  (hY : YSpecF P id v (c.args.toList.map ed) own r d own' r') : SemF P o ed own r d own' r' := by
 have key : ∀ (n : Nat) (l : List Operand), (∀ x ∈ l, mx (ed x) ≤ n) → mxL (l.map ed) ≤ n := by
  intro n l
  induction l with
  | nil => intro _; simp [mxL]
  | cons x l ih =>
   intro hl
   simp only [List.map_cons, mxL]
   have := hl x List.mem_cons_self
   have := ih fun y hy => hl y (List.mem_cons_of_mem _ hy)
   omega
 have hop : ∀ x ∈ c.args.toList, x ∈ o.op.operands := by
  intro x hx
  rw [ho]
  simp only [Op.operands, Call.operands, hcal]
  simp only [Array.mem_append]
  exact .inr (by simpa using hx)
 constructor
 ·intro h1 h2
  exact hY.1 h1 (key r _ fun x hx => h2 x (hop x hx))
 ·rintro B s a w loc next Q R rfl hlim hd hed hmd hn
  have hlim' := hlim
  unfold lim at hlim'
  have hrd : rdV (cu s loc) (hm s loc B.M0) w.heap (c.args.toList.map ed) (c.args.map a.eval).toList := by
   rw [Array.toList_map]
   have key2 : ∀ l : List Operand, (∀ x ∈ l, x ∈ c.args.toList) → rdV (cu s loc) (hm s loc B.M0) w.heap (l.map ed) (l.map a.eval) := by
    intro l
    induction l with
    | nil => intro _; simp [rdV]
    | cons x l ih =>
     intro hl
     simp only [List.map_cons, rdV]
     exact ⟨_, _, rfl, hed x (hop x (hl x List.mem_cons_self)), ih fun y hy => hl y (List.mem_cons_of_mem _ hy)⟩
   exact key2 _ fun _ h => h
  have hm0 : mxL (c.args.toList.map ed) ≤ r := key r _ fun x hx => by have := hmd x (hop x hx); omega
  obtain ⟨b, hcur, hhdr, hF⟩ := hY.2 B.M0 w loc (c.args.map a.eval) (by omega) hm0 R.st hrd
  have hx := hed f (by rw [ho]; simp [Op.operands, Call.operands, hcal])
  rw [hf] at hx
  simp only [Rds, rd] at hx
  have hv := hx _ hcur
  rw [hhdr] at hv
  obtain ⟨fn, tmps, assign, body, hrun, hround⟩ := hF
  refine ⟨fun _ _ => trivial, ?_⟩
  have hex : (execOp a.eval o).run P w = .ok (.round b fn tmps assign body) w := by
   obtain ⟨dst, op, type, pos, after, guard⟩ := o
   simp only at ho
   subst ho
   obtain ⟨cal, ars, ats⟩ := c
   simp only at hcal
   subst hcal
   simp only [execOp, resolve, hv, Deferred.ofValue, Sem.run_bind, Sem.run_pure, Result.andThen_ok, invoke]
   simpa using hrun
  rw [Oper.semAt_eq _ _ _ (fun c' hc' => by rw [ho] at hc'; cases hc'), hex, Oper.uponIn_round]
  refine ⟨fun h => by simp [wd] at h, (round_wd B.ro hround).mono ?_⟩
  rintro e1 w' ⟨v1, rfl, loc', S', hu, hnew, hver, hrd'⟩
  exact hn _ _ loc' (R.step (n := r) (by omega) (by omega) (dst_lt hd) S' hu hnew hver hrd')
def roOK : Option (Nat × Nat) → Base → Prop
 | none, B => B.ro = none
 | some (id, v), B => v < B.N ∧ ∃ L b, curOf B.own0 B.loc0 id v = some L ∧ L.blks = [b] ∧ B.ro = some b
def RunL (P : Program) (ro : Option (Nat × Nat)) (nt : Nat) (c : Code) (l : List (Nat × DVal)) (own : List Ent) (r : Nat) (e : Exit) (l' : List (Nat × DVal)) (own' : List Ent) : Prop :=
 ∀ B : Base, B.nt = nt → B.N ≤ r → roOK ro B → ∀ Q : Exit → DS → Prop, Q e ⟨l', own'⟩ → DW P B c Q ⟨l, own⟩
def endSt : Exit → Option LSt
 | .normal => some .ready
 | .ret => some (.done .ret)
 | .exit i => some (.done (.exit i))
 | _ => none
def isRdy : LSt → Bool
 | .ready => true
 | _ => false
theorem round_ok {id v r r1 r2 : Nat} {args : List DVal} {own own1 own2 : List Ent} {l0 l1 l2 : List (Nat × DVal)} {e0 e1 e2 : Ent} {sl sl1 sl2 : Sl} {nt nt1 nt2 : Nat} {ps ps1 ps2 : Array Tmp} {assign body as1 bo1 as2 bo2 : Code} {st' : LSt} {ex : Exit}
  (he0 : findE own id = some e0) (hr0 : e0.r = v) (hob0 : e0.obj = .lrec .ready sl nt ps assign body) (hlen : args.length = ps.size) (hpn : ∀ p ∈ ps.toList, p < nt)
  (hsl : ∀ i, getS l0 i = sget sl i)
  (hb1 : mxE own ≤ r → mxL args ≤ r → r ≤ r1) (hA : RunL P (some (id, v)) nt assign (putP ps.toList args l0) own r .normal l1 own1)
  (he1 : findE own1 id = some e1) (hr1 : e1.r = v) (hob1 : e1.obj = .lrec .ready sl1 nt1 ps1 as1 bo1) (hm1 : mxE own ≤ r → mxL args ≤ r → mxS l1 ≤ r1 ∧ mxE own1 ≤ r1)
  (hb2 : mxE own ≤ r → mxL args ≤ r → r1 ≤ r2) (hB : RunL P (some (id, v)) nt body l1 (upE own1 id v (.lrec .busy sl1 nt1 ps1 as1 bo1)) r1 ex l2 own2)
  (he2 : findE own2 id = some e2) (hr2 : e2.r = v) (hob2 : e2.obj = .lrec .busy sl2 nt2 ps2 as2 bo2) (hm2 : mxE own ≤ r → mxL args ≤ r → mxS l2 ≤ r2 ∧ mxE own2 ≤ r2)
  (hst : endSt ex = some st') : YSpecF P id v args own r (.bool (isRdy st')) (upE own2 id v (.lrec st' sl2 nt2 ps2 as2 bo2)) r2 := by
 obtain ⟨hmem0, hid0⟩ := findE_ent he0
 obtain ⟨hmem1, hid1⟩ := findE_ent he1
 obtain ⟨hmem2, hid2⟩ := findE_ent he2
 constructor
 ·intro h1 h2
  have g1 := hb1 h1 h2; have g2 := hb2 h1 h2
  obtain ⟨_, g3⟩ := hm2 h1 h2
  have h3 := mem_mxE hmem2
  rw [hob2] at h3
  simp only [mxO] at h3
  refine ⟨by omega, by simp [mx], Nat.le_trans (mxE_upE _ _ _ _) ?_⟩
  simp only [mxO]
  omega
 ·intro M w loc vs hmo hma S hr
  have g1 := hb1 hmo hma; have g2 := hb2 hmo hma
  obtain ⟨k1, k2⟩ := hm1 hmo hma
  obtain ⟨k3, k4⟩ := hm2 hmo hma
  have hvlt : v < r := by have := (mem_mxE hmem0).1; omega
  have hcur0 : curOf own loc id v = some (loc id) := by unfold curOf; rw [he0]; simp [hr0]
  have hk := S.ok e0 hmem0
  rw [hob0, hid0] at hk
  obtain ⟨b, fn, tm, df, h1, h2, h3, h4, h5⟩ := hk
  refine ⟨b, hcur0, h2, ?_⟩
  have hvl := rdV_length _ _ hr
  simp only [Array.length_toList] at hvl
  have hy := run_yield (P := P) (args := vs) h3 (by simp only; omega)
  refine ⟨_, _, _, _, hy, roundIn_of_wpIn (F := wd none) trivial ?_⟩
  let B1 : Base := { own0 := own, loc0 := loc, M0 := M, N := r, w0 := w, nt := nt, ro := some b, nd := w.heap.size, hnd := Nat.le_refl _ }
  have hro : roOK (some (id, v)) B1 := ⟨hvlt, loc id, b, hcur0, h1, rfl⟩
  obtain ⟨a1, ha1⟩ : ∃ a1 : Act, a1 = { tmps := (ps.zip vs).foldl (fun tmps (t, a) => tmps.setIfInBounds t a) tm, defers := [] } := ⟨_, rfl⟩
  have hfold : a1.tmps = (ps.toList.zip vs.toList).foldl (fun t p => t.setIfInBounds p.1 p.2) tm := by
   rw [ha1]
   show (ps.zip vs).foldl _ _ = _
   rw [← Array.foldl_toList, Array.toList_zip]
  have R1 : Rel B1 ⟨putP ps.toList args l0, own⟩ a1 w loc := by
   refine ⟨S, Upd.refl _ _, fun b hb => .inl hb, fun e he _ => curOf_self S.nd he, ?_, ?_, ⟨[], by rw [ha1]; rfl, List.nodup_nil, by simp [marksOf], by simp, by simp⟩⟩
   ·intro i
    rw [hfold]
    refine putP_rd _ _ _ _ _ (by simpa using hlen) (fun p hp => by rw [h4]; exact hpn p hp) hr (fun q => ?_) i
    rw [hsl q]
    exact h5 q
   ·rw [hfold, size_zipP]; exact h4
  have hwp := hA B1 rfl (Nat.le_refl _) hro (fun e s => e = .normal ∧ s = ⟨l1, own1⟩) ⟨rfl, rfl⟩ a1 w loc R1
  simp only
  rw [← ha1]
  refine wpIn_mono hwp ?_
  rintro e a' w' ⟨s', loc', ⟨rfl, rfl⟩, R'⟩
  -- the record in the state behind the assignment
  have hver1 := R'.ver e1 hmem1 (by show e1.r < r; rw [hr1]; exact hvlt)
  rw [hid1, hr1] at hver1
  have hloc1 : loc' id = loc id := by
   have : curOf own loc id v = some (loc' id) := hver1
   rw [hcur0] at this
   exact (Option.some.inj this).symm
  obtain ⟨b1, fn1, tm1, df1, q1, q2, q3, R2⟩ := R'.turnRec (n := r1) .busy he1 hr1 hob1 (by show max r (max (mxS l1) (mxE own1)) ≤ r1; omega)
  have hbb : b1 = b := by
   rw [hloc1, h1] at q1
   simpa using q1.symm
  subst hbb
  refine ⟨_, run_beginRound q3 rfl, ?_⟩
  have hwp2 := hB B1 rfl (by show r ≤ r1; omega) hro (fun e s => e = ex ∧ s = ⟨l2, own2⟩) ⟨rfl, rfl⟩ a' _ _ R2
  refine wpIn_mono hwp2 ?_
  rintro e a2 w3 ⟨s3, loc3, ⟨rfl, rfl⟩, R3⟩
  have hver2 := R3.ver e2 hmem2 (by show e2.r < r; rw [hr2]; exact hvlt)
  rw [hid2, hr2] at hver2
  have hloc3 : loc3 id = loc id := by
   have : curOf own loc id v = some (loc3 id) := hver2
   rw [hcur0] at this
   exact (Option.some.inj this).symm
  obtain ⟨b3, fn3, tm3, df3, p1, p2, p3, R4⟩ := R3.turnRec (n := r2) st' he2 hr2 hob2 (by show max r (max (mxS l2) (mxE own2)) ≤ r2; omega)
  have hbb : b3 = b1 := by
   rw [hloc3, h1] at p1
   simpa using p1.symm
  subst hbb
  have fin : ∀ (jump : Option Code), st'.s = (if jump.isNone then .ready else .done) → st'.p = jump → isRdy st' = jump.isNone → ∃ v1 w', (Instr.endRound b3 jump).run P w3 = .ok v1 w' ∧ ∃ v0, Ending.returned v1 = .returned v0 ∧
    ∃ loc', St (upE own2 id v (.lrec st' sl2 nt2 ps2 as2 bo2)) loc' M w'.heap ∧ Upd (hotOf own loc) w w' ∧ (∀ b ∈ hotOf (upE own2 id v (.lrec st' sl2 nt2 ps2 as2 bo2)) loc', b ∈ hotOf own loc ∨ w.heap.size ≤ b) ∧
     (∀ e ∈ upE own2 id v (.lrec st' sl2 nt2 ps2 as2 bo2), e.r < r → curOf own loc e.id e.r = some (loc' e.id)) ∧ rd (curOf (upE own2 id v (.lrec st' sl2 nt2 ps2 as2 bo2)) loc') (hotOf (upE own2 id v (.lrec st' sl2 nt2 ps2 as2 bo2)) loc' ++ M) w'.heap (.bool (isRdy st')) v0 := by
   intro jump j1 j2 j3
   have hrun := run_endRound (P := P) jump p3
   rw [j1, j2] at R4
   exact ⟨_, _, hrun, _, rfl, _, R4.st, R4.upd, R4.new, R4.ver, by simp only [rd]; rw [j3]⟩
  cases e <;> simp only [endSt, Option.some.injEq, reduceCtorEq] at hst <;> simp only [roundPost]
  ·subst hst; exact fin none rfl rfl rfl
  ·subst hst; exact fin _ rfl rfl rfl
  ·subst hst; exact fin _ rfl rfl rfl
theorem nd_obj {cur : Cur} {M : List Nat} {h : Array Obj} {l : Loc} {obj : DObj} (hk : ObjOK cur M h l obj) : ∀ b ∈ l.blks, ∀ c, h[b]? ≠ some (.deferred c) := by
 intro b hb c hc
 cases obj with
 | box cs =>
  obtain ⟨b', arr, ty, h1, h2, _⟩ := hk
  rw [h1] at hb
  simp only [List.mem_singleton] at hb
  subst hb
  rw [h2] at hc; simp at hc
 | row et k bs es =>
  obtain ⟨_, ⟨_, h1, _⟩ | ⟨b', arr, cap, h1, h2, h3, _⟩⟩ := hk
  ·rw [h1] at hb; cases hb
  ·rw [h1] at hb
   simp only [List.mem_singleton] at hb
   subst hb
   rw [h3] at hc; simp at hc
 | map ks vs =>
  obtain ⟨b', es, clk, h1, h2, _⟩ := hk
  rw [h1] at hb
  simp only [List.mem_singleton] at hb
  subst hb
  rw [h2] at hc; simp at hc
 | mapD ks vs =>
  obtain ⟨b', es, clk, h1, h2, _⟩ := hk
  rw [h1] at hb
  simp only [List.mem_singleton] at hb
  subst hb
  rw [h2] at hc; simp at hc
 | abs A => exact A.nd _ _ _ _ hk b hb c hc
 | lrec st sl nt ps assign body =>
  obtain ⟨b', fn, tm, df, h1, h2, h3, _⟩ := hk
  rw [h1] at hb
  simp only [List.mem_singleton] at hb
  subst hb
  rw [h3] at hc; simp at hc
 | glob g vs =>
  obtain ⟨h1, arr, ty, h2, _⟩ := hk
  rw [h1] at hb
  simp only [List.mem_singleton] at hb
  subst hb
  rw [h2] at hc; simp at hc
def leaveE : LSt → Option Exit
 | .ready => some .normal
 | .done j => match j with
  | .ret => some .ret
  | .exit i => some (.exit i)
  | _ => none
 | _ => none
theorem range_ok {ro : Option (Nat × Nat)} {x : Operand} {ps : Array Tmp} {assign body : Code} {g : FuncId} {us cs : List DVal} {own own2 : List Ent} {l : List (Nat × DVal)} {sl sl2 : Sl} {r r2 nt nt2 : Nat} {ps2 : Array Tmp} {as2 bo2 : Code} {st : LSt} {e2 : Ent} {ex : Exit}
  (hsl : ∀ i, getS l i = sget sl i) (hx : ev l x = .fn (.func g) us cs) (hb1 : mxS l ≤ r) (hb2 : mxE own ≤ r)
  (hro : ∀ id v, ro = some (id, v) → ∃ er st sl nt ps as bo, findE own id = some er ∧ er.r = v ∧ er.obj = .lrec st sl nt ps as bo)
  (hS : SpecAtF P (.func g) (us ++ .pk r r :: cs) (upE own r r (.lrec .ready sl nt ps assign body)) (r + 1) (.tup []) own2 r2)
  (he2 : findE own2 r = some e2) (hr2 : e2.r = r) (hob2 : e2.obj = .lrec st sl2 nt2 ps2 as2 bo2) (hex : leaveE st = some ex) :
  RunL P ro nt (.rangeFunc x ps assign body) l own r ex l (upE own2 r r (.lrec (.out st.p) sl2 nt2 ps2 as2 bo2)) := by
 intro B hBt hBN hBro Q hQ a w loc R
 have happ : ∀ l l' : List DVal, mxL (l ++ l') = max (mxL l) (mxL l') := mxL_append'
 have hmf : mxL us ≤ r ∧ mxL cs ≤ r := by
  have h := ev_mx l x
  rw [hx] at h
  simp only [mx] at h
  omega
 refine wpIn_rangeFunc ?_
 intro fn hfn
 -- the block of deferred calls, the record
 obtain ⟨W0, mark, df, hU0, hen, hmark⟩ : ∃ (W0 : World) (mark : List Deferred) (df : Nat), Upd [] w W0 ∧
   (Instr.enterLoop fn a.tmps ps assign body (wd B.ro).round).run P w = .ok (W0.heap.size, mark) (W0.alloc (.loop { state := .ready, pending := none, fn, tmps := a.tmps, params := ps, assign, body, defers := df })) ∧
   (mark = [] ∨ (mark = [{ target := .collected w.heap.size, args := #[] }] ∧ W0 = w.alloc (.deferred (some [])) ∧ B.ro = none)) := by
  cases ro with
  | none =>
   have hb : B.ro = none := hBro
   refine ⟨w.alloc (.deferred (some [])), [{ target := .collected w.heap.size, args := #[] }], w.heap.size, Upd.alloc [] w _, ?_, .inr ⟨rfl, rfl, hb⟩⟩
   rw [hb]
   have := run_enterLoop_outer (P := P) (w := w) fn a.tmps ps assign body
   refine Eq.trans this ?_
   rw [World.size_alloc]
  | some p =>
   obtain ⟨id, v⟩ := p
   obtain ⟨hv, L, b, h1, h2, h3⟩ := hBro
   obtain ⟨er, st', sl', nt', ps', as', bo', k1, k2, k3⟩ := hro id v rfl
   obtain ⟨hmem, hid⟩ := findE_ent k1
   have hver := R.ver er hmem (by omega)
   rw [hid, k2, h1] at hver
   have hLl := Option.some.inj hver
   have hk := R.st.ok er hmem
   rw [k3, hid, ← hLl] at hk
   obtain ⟨b', fn', tm', df', q1, q2, q3, _⟩ := hk
   have hbb : b' = b := by rw [h2] at q1; simpa using q1.symm
   subst hbb
   refine ⟨w, [], df', Upd.refl _ _, ?_, .inl rfl⟩
   rw [h3]
   exact run_enterLoop_inner q3 fn a.tmps ps assign body
 obtain ⟨rec, hrec⟩ : ∃ rec : Loop, rec = { state := .ready, pending := none, fn, tmps := a.tmps, params := ps, assign, body, defers := df } := ⟨_, rfl⟩
 rw [← hrec] at hen
 have R0 : Rel B ⟨l, own⟩ a W0 loc := R.put (dst := none) (v := Go.undef) (d := .any) (fun i hi => by simp at hi) hU0 (by simp [rd])
 have hlim : lim B ⟨l, own⟩ ≤ r := by show max B.N (max (mxS l) (mxE own)) ≤ r; omega
 have hw1 : Upd (hotOf own loc) W0 (W0.alloc (.loop rec)) := Upd.alloc _ _ _
 have hL1 : ∀ b0, b0 ∈ (⟨[W0.heap.size], .func (.yield W0.heap.size) #[] #[]⟩ : Loc).blks → b0 < (W0.alloc (.loop rec)).heap.size ∧ ((∃ e ∈ own, e.id = r ∧ b0 ∈ (loc r).blks) ∨ W0.heap.size ≤ b0) := by
  intro b0 hb0
  simp only [List.mem_singleton] at hb0
  subst hb0
  exact ⟨by simp, .inr (Nat.le_refl _)⟩
 have W1 := R0.weakUp (obj := .lrec .ready sl nt ps assign body) (r := r) hlim hw1 hL1 (.inl (Nat.le_refl _))
 have R1 : Rel B ⟨l, upE own r r (.lrec .ready sl nt ps assign body)⟩ a (W0.alloc (.loop rec)) (upL loc r ⟨[W0.heap.size], .func (.yield W0.heap.size) #[] #[]⟩) := by
  refine R0.up (dst := none) (v := Go.undef) (d := .any) (n := r) hlim (fun i hi => by simp at hi) hw1 (fun b hb _ => by simp only [World.alloc, Array.getElem?_push]; rw [if_neg (by omega)]) hL1 (.inl (Nat.le_refl _))
   (obj := .lrec .ready sl nt ps assign body) ⟨W0.heap.size, fn, a.tmps, df, rfl, rfl, by rw [heap_alloc_new, hrec]; rfl, by rw [R0.nt]; exact hBt, fun i => ?_⟩ (by simp [rd])
  rw [← hsl i]
  have hm := Nat.le_trans (mx_getS l i) hb1
  exact rd_weak W1 _ _ hm (R0.sl i)
 obtain ⟨loc1, hloc1⟩ : ∃ loc1, loc1 = upL loc r ⟨[W0.heap.size], .func (.yield W0.heap.size) #[] #[]⟩ := ⟨_, rfl⟩
 rw [← hloc1] at R1
 have hcur1 : curOf (upE own r r (.lrec .ready sl nt ps assign body)) loc1 r r = some ⟨[W0.heap.size], .func (.yield W0.heap.size) #[] #[]⟩ := by rw [hloc1]; exact curOf_up _ _ _ _ _ _
 have hg := R1.ev x
 rw [hx] at hg
 simp only [Rds, rd] at hg
 obtain ⟨us', cs', hv, hus, hcs⟩ := hg
 have hbd : mxE (upE own r r (.lrec .ready sl nt ps assign body)) ≤ r + 1 := by
  refine Nat.le_trans (mxE_upE _ _ _ _) ?_
  have : mxT sl ≤ r := mxT_le fun i => by rw [← hsl i]; exact Nat.le_trans (mx_getS l i) hb1
  simp only [mxO]; omega
 have hbl : mxL (us ++ .pk r r :: cs) ≤ r + 1 := by
  rw [happ]; simp only [mxL, mx]; omega
 obtain ⟨hE, hbs, hcall⟩ := hS
 have hbs := hbs hbd hbl
 have hcall := hcall B.M0 (W0.alloc (.loop rec)) loc1 (us' ++ #[.func (.yield W0.heap.size) #[] #[]] ++ cs') hbd hbl R1.st (by
  have e1 : (us' ++ #[Value.func (.yield W0.heap.size) #[] #[]] ++ cs').toList = us'.toList ++ Value.func (.yield W0.heap.size) #[] #[] :: cs'.toList := by simp
  rw [e1]
  refine rdV_append _ _ _ _ hus ?_
  simp only [rdV]
  refine ⟨_, _, rfl, ?_, hcs⟩
  simp only [rd]
  intro lc hlc
  rw [hcur1] at hlc
  rw [← Option.some.inj hlc])
 refine ⟨W0.heap.size, mark, W0.alloc (.loop rec), { target := .fn (.func g) cs', args := us' ++ #[.func (.yield W0.heap.size) #[] #[]] }, W0.alloc (.loop rec), g, us' ++ #[.func (.yield W0.heap.size) #[] #[]] ++ cs', W0.alloc (.loop rec), hen, ?_, fun _ _ => trivial, ?_, fun h => by simp [wd] at h, ?_⟩
 ·simp only [resolve, rangeCall, hv]
  simp [Deferred.ofValue, Act.eval]
 ·simp only [invoke]
  exact hcall.1 _ _
 ·refine (calls_wd B.ro _ hcall.2).mono ?_
  rintro e w2 ⟨v, rfl, loc2, S2, hu, hnew, hver, _⟩
  have R2 : Rel B ⟨l, own2⟩ a w2 loc2 := R1.step (dst := none) (v := Go.undef) (d := .any) (n := r + 1) (by omega) (by show mxS l ≤ r + 1; omega) (fun i hi => by simp at hi) S2 hu hnew hver (by simp [rd])
  obtain ⟨hmem2, hid2⟩ := findE_ent he2
  have hv2 := hver e2 hmem2 (by omega)
  rw [hid2, hr2, hcur1] at hv2
  have hloc2 := Option.some.inj hv2
  obtain ⟨b3, fn3, tm3, df3, p1, p2, p3, R3⟩ := R2.turnRec (n := r2) (.out st.p) he2 hr2 hob2 (by show max B.N (max (mxS l) (mxE own2)) ≤ r2; omega)
  have hbb : b3 = W0.heap.size := by rw [← hloc2] at p1; simpa using p1.symm
  subst hbb
  have hbusy : st.s ≠ .busy := by
   intro h
   cases st <;> simp [LSt.s, leaveE] at h hex
  have hrun := run_endLoop (P := P) p3 hbusy
  -- the activation's marks
  have fin : Rel B ⟨l, upE own2 r r (.lrec (.out st.p) sl2 nt2 ps2 as2 bo2)⟩ { a with defers := mark ++ a.defers } (w2.putObj W0.heap.size (.loop { state := .exhausted, pending := st.p, fn := fn3, tmps := tm3, params := ps2, assign := as2, body := bo2, defers := df3 })) (upL loc2 r (loc2 r)) := by
   refine ⟨R3.st, R3.upd, R3.new, R3.ver, R3.sl, R3.nt, ?_⟩
   rcases hmark with rfl | ⟨rfl, hW0, hBn⟩
   ·exact R3.df
   ·obtain ⟨rs, h1, h2, h3, h4, h5⟩ := R.df
    obtain ⟨its, i1, i2, i3, i4, i5⟩ := R3.df
    have hwlt : w.heap.size < W0.heap.size := by rw [hW0]; simp
    have hD0 : W0.heap[w.heap.size]? = some (.deferred (some [])) := by rw [hW0]; exact heap_alloc_new w _
    have hD1 : (W0.alloc (.loop rec)).heap[w.heap.size]? = some (.deferred (some [])) := by
     simp only [World.alloc, Array.getElem?_push]
     rw [if_neg (by omega)]; exact hD0
    have hout1 : w.heap.size ∉ hotOf (upE own r r (.lrec .ready sl nt ps assign body)) loc1 := by
     intro hm
     obtain ⟨e, he, hb⟩ := List.mem_flatMap.1 hm
     exact nd_obj (R1.st.ok e he) _ hb _ hD1
    have hD2 : w2.heap[w.heap.size]? = some (.deferred (some [])) := by
     rw [hu.blk _ (by simp; omega) hout1]; exact hD1
    have hD3 : (w2.putObj W0.heap.size (.loop { state := .exhausted, pending := st.p, fn := fn3, tmps := tm3, params := ps2, assign := as2, body := bo2, defers := df3 })).heap[w.heap.size]? = some (.deferred (some [])) := by
     rw [World.putObj_heap_other (by omega)]; exact hD2
    have hits : ∀ q ∈ marksOf its, q < w.heap.size := by
     -- the marks of before are those of a
     intro q hq
     have hmk : ∀ (x y : List DItem), x.map toDef = y.map toDef → marksOf x = marksOf y := by
      intro x
      induction x with
      | nil => intro y hy; cases y with | nil => rfl | cons _ _ => simp at hy
      | cons c x ih =>
       intro y hy
       cases y with
       | nil => simp at hy
       | cons d y =>
        simp only [List.map_cons, List.cons.injEq] at hy
        obtain ⟨hcd, hxy⟩ := hy
        have := ih y hxy
        cases c with
        | inl c =>
         cases d with
         | inl d => simp only [toDef, Deferred.mk.injEq, Target.collected.injEq, and_true] at hcd; simp only [marksOf, this, hcd]
         | inr d => obtain ⟨d1, d2⟩ := d; simp [toDef] at hcd
        | inr c =>
         obtain ⟨c1, c2⟩ := c
         cases d with
         | inl d => simp [toDef] at hcd
         | inr d => obtain ⟨d1, d2⟩ := d; simp only [marksOf, this]
     have := hmk its rs (i1.symm.trans h1)
     rw [this] at hq
     exact (Array.getElem?_eq_some_iff.1 (h3 q hq).1).1
    refine ⟨.inl w.heap.size :: its, by simp [i1, toDef], ?_, ?_, fun h => absurd hBn h, fun g cs hm => i5 g cs (by simpa using hm)⟩
    ·show (w.heap.size :: marksOf its).Nodup
     rw [List.nodup_cons]
     exact ⟨fun hm => by have := hits _ hm; omega, i2⟩
    ·intro q hq
     rcases List.mem_cons.1 (show q ∈ w.heap.size :: marksOf its from hq) with rfl | hq
     ·refine ⟨hD3, Nat.le_trans B.hnd R.upd.size, fun hm => ?_⟩
      rcases List.mem_append.1 hm with hm | hm
      ·obtain ⟨e, he, hb⟩ := List.mem_flatMap.1 hm
       exact nd_obj (R3.st.ok e he) _ hb _ hD3
      ·have := R.st.lt _ (List.mem_append_right _ hm); omega
     ·exact i3 q hq
  refine ⟨_, _, hrun, ?_⟩
  cases st with
  | ready =>
   simp only [leaveE, Option.some.injEq] at hex
   subst hex
   exact ⟨_, _, hQ, fin⟩
  | busy => simp [leaveE] at hex
  | out p => simp [leaveE] at hex
  | done j =>
   cases j <;> simp only [leaveE, Option.some.injEq, reduceCtorEq] at hex
   ·subst hex
    exact wpIn_exit ⟨_, _, hQ, fin⟩
   ·subst hex
    exact wpIn_ret ⟨_, _, hQ, fin⟩
end
end Go.Dm
end
