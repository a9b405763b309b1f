/- Parts of a proof, laid together: EvK4, EnSc, EvK5. -/
import Derived.Scope
import Derived.Test.YtedjakmhhlilaaaGreatqGx14
import Derived.Test.YtedjakmhhlilaaaGreatqGx22
set_option linter.unusedSimpArgs false
set_option linter.unusedVariables false
set_option linter.unusedSectionVars false
section
namespace Go.Dm
variable [DMode]
noncomputable def argT : List DVal → Nat → Sl → Sl
 | [], _, T => T
 | d :: ds, i, T => argT ds (i + 1) (Mp.put d i T)
section
variable (P : Program)
noncomputable def resOneK (sl : Sl) (T : OT) : ResultVar → Option DVal
 | .tmp t => some (sget sl t)
 | .cell a t => match tAgg P t, tCells P t, cellsAt (loc1 (fnd T) (sget sl a)) (sget sl a) with
  | some true, some n, some cs => if n ≤ cs.length then some (.agg (cs.take n)) else none
  | some false, _, some cs => match cs with | d :: _ => some d | [] => none
  | _, _, _ => none
noncomputable def resLK (sl : Sl) (T : OT) : List ResultVar → Option (List DVal)
 | [] => some []
 | r :: rs => match resOneK P sl T r, resLK sl T rs with
  | some d, some ds => some (d :: ds)
  | _, _ => none
noncomputable def resK (sl : Sl) (T : OT) (rs : List ResultVar) : Option DVal := match resLK P sl T rs with
 | some [d] => some d
 | some ds => some (.tup ds)
 | none => none
noncomputable def oneK (nt : Nat) (call : CallK) (o : Oper) (s : KV) : Option KV := if o.guard.isNone && dstOK nt o.dst then
 (if isEffF o then (match outK P call o (evK s.sl) s.ow s.r with
  | some (d, ow, r) => some ⟨sput s.sl o.dst d, ow, r⟩
  | none => none) else (match neuK P (fnd s.ow) (evK s.sl) o.op with
  | some d => some ⟨sput s.sl o.dst d, s.ow, s.r⟩
  | none => none)) else none
noncomputable def evFl1K (nt : Nat) (call : CallK) (ops3 : Array Oper) (s : KV) : Option KV := match ops3.pop.back?, ops3.back? with
 | some z, some o => (match z.op, z.dst with
  | .alloc ty, some t => if flB (ltOf o ops3.pop.pop.size) nt ops3 z o t ty then
   (match evOpsK P nt call ops3.pop.pop ops3.pop.pop.toList ⟨sput s.sl (some t) .any, s.ow, s.r⟩, tZero P ty with
    | some (tr, s1), some cs => if floatK P ops3.pop.pop tr s1 && cs.all (oneO []) then oneK P nt call o ⟨sput s1.sl (some t) (.bx s1.r s1.r 0), Mp.put ⟨s1.r, s1.r, .box cs⟩ s1.r s1.ow, s1.r + 1⟩ else none
    | _, _ => none) else none
  | _, _ => none)
 | _, _ => none
noncomputable def evFlK (nt : Nat) (call : CallK) (ops : Array Oper) (s : KV) : Option KV := match ops.back? with
 | some o2 => (match o2.op with
  | .store _ _ _ => evFl1K P nt call ops s
  | _ => if lastOK (ops.pop.pop.pop.size + 2) o2 (ops.pop.pop.pop.size + 2) then (match evFl1K P nt call ops.pop s with
   | some s' => oneK P nt call o2 s'
   | none => none) else none)
 | none => none
noncomputable def evLoopK (body : KV → Option (Exit × KV)) : Nat → KV → Option (Exit × KV)
 | 0, _ => none
 | m + 1, s => match body s with
  | some (.normal, s1) => evLoopK body m s1
  | x => x
variable (O : CallK) (N : Nat)
noncomputable def putPT : List Nat → List DVal → Sl → Sl
 | p :: ps, d :: ds, T => putPT ps ds (Mp.put d p T)
 | _, _, T => T
noncomputable def yldC (id v : Nat) (x : Option (Exit × KV)) : Option (DVal × OT × Nat) := match x with
 | some (ex, s2) => (match endSt ex, fnd s2.ow id with
  | some st', some e2 => (match e2.obj with
   | .lrec .busy sl2 nt2 ps2 as2 bo2 => if Nat.beq e2.r v then some (.bool (isRdy st'), Mp.put ⟨id, v, .lrec st' sl2 nt2 ps2 as2 bo2⟩ id s2.ow, s2.r) else none
   | _ => none)
  | _, _ => none)
 | none => none
noncomputable def yldB (ec : Code → KV → Option (Exit × KV)) (id v : Nat) (body : Code) (x : Option (Exit × KV)) : Option (DVal × OT × Nat) := match x with
 | some (.normal, s1) => (match fnd s1.ow id with
  | some e1 => (match e1.obj with
   | .lrec .ready sl1 nt1 ps1 as1 bo1 => if Nat.beq e1.r v then yldC id v (ec body ⟨s1.sl, Mp.put ⟨id, v, .lrec .busy sl1 nt1 ps1 as1 bo1⟩ id s1.ow, s1.r⟩) else none
   | _ => none)
  | none => none)
 | _ => none
noncomputable def yldK (ec : Option (Nat × Nat) → Nat → Code → KV → Option (Exit × KV)) (id v : Nat) (args : List DVal) (T : OT) (r : Nat) : Option (DVal × OT × Nat) := match fnd T id with
 | some e0 => (match e0.obj with
  | .lrec .ready sl nt ps assign body => if Nat.beq e0.r v && args.length == ps.size && (ps.toList.all fun p => Nat.blt p nt) then
   yldB (ec (some (id, v)) nt) id v body (ec (some (id, v)) nt assign ⟨putPT ps.toList args sl, T, r⟩) else none
  | _ => none)
 | none => none
noncomputable def callK (ec : Option (Nat × Nat) → Nat → Code → KV → Option (Exit × KV)) : CallK := fun g args T r => match O g args T r with
 | some x => some x
 | none => match g with
 | .yl id v => yldK ec id v args T r
 | .fn g => match P.funcs[g]? with
  | none => none
  | some fn => if fn.name == "runtime.NumGoroutine" || !decide (args.length ≤ fn.ntmps) then none else match fn.body with
   | none => none
   | some c => match ec none fn.ntmps c ⟨argT args 0 (Mp.mt 7), T, r⟩ with
    | none => none
    | some (e, s) => match e with
     | .normal | .ret => (match resK P s.sl s.ow fn.results.toList with
      | some d => some (d, s.ow, s.r)
      | none => none)
     | _ => none
noncomputable def roB (ro : Option (Nat × Nat)) (T : OT) : Bool := match ro with
 | none => true
 | some (id, v) => (match fnd T id with
  | some e => Nat.beq e.r v && (match e.obj with
   | .lrec _ _ _ _ _ _ => true
   | _ => false)
  | none => false)
noncomputable def rfEnd (s : KV) (x : Option (DVal × OT × Nat)) : Option (Exit × KV) := match x with
 | some (.tup [], T2, r2) => (match fnd T2 s.r with
  | some e2 => (match e2.obj with
   | .lrec st sl2 nt2 ps2 as2 bo2 => (match Nat.beq e2.r s.r, leaveE st with
    | true, some ex => some (ex, ⟨s.sl, Mp.put ⟨s.r, s.r, .lrec (.out st.p) sl2 nt2 ps2 as2 bo2⟩ s.r T2, r2⟩)
    | _, _ => none)
   | _ => none)
  | none => none)
 | _ => none
noncomputable def rfK (call : CallK) (ro : Option (Nat × Nat)) (nt : Nat) (x : Operand) (ps : Array Tmp) (assign body : Code) (s : KV) : Option (Exit × KV) := match roB ro s.ow, evK s.sl x with
 | true, .fn (.func g) us cs => rfEnd s (call (.fn g) (us ++ .pk s.r s.r :: cs) (Mp.put ⟨s.r, s.r, .lrec .ready s.sl nt ps assign body⟩ s.r s.ow) (s.r + 1))
 | _, _ => none
noncomputable def evCL (call : CallK) : Code → Option (Nat × Nat) → Nat → KV → Option (Exit × KV)
 | .skip, _, _, s => some (.normal, s)
 | .region _ ops draw, _, nt, s => if draw && !totB ops then (match evFlK P nt call ops s with
  | some s' => some (.normal, s')
  | none => none) else match evOpsK P nt call ops ops.toList s with
  | some (tr, s') => if draw then (if floatK P ops tr s' then some (.normal, s') else none) else some (.normal, s')
  | none => none
 | .seq a b, ro, nt, s => match evCL call a ro nt s with
  | some (.normal, s') => evCL call b ro nt s'
  | x => x
 | .cond x a b, ro, nt, s => match evK s.sl x with
  | .bool true => evCL call a ro nt s
  | .bool false => evCL call b ro nt s
  | _ => none
 | .block id b, ro, nt, s => match evCL call b ro nt s with
  | some (.exit j, s') => if j = id then some (.normal, s') else some (.exit j, s')
  | x => x
 | .loop b, ro, nt, s => evLoopK (evCL call b ro nt) N s
 | .scope b, ro, nt, s => (match evCL call b ro nt s with
  | some (.goto _, _) => none
  | x => x)
 | .rangeFunc x ps assign body, ro, nt, s => rfK call ro nt x ps assign body s
 | .exit id, _, _, s => some (.exit id, s)
 | .ret, _, _, s => some (.ret, s)
 | .label _, _, _, s => some (.normal, s)
 | _, _, _, _ => none
end
section
variable {P : Program} {O : CallK} {N : Nat}
theorem SlR_E : SlR [] (Mp.mt 7) := fun i => by
 unfold sget
 rw [Mp.get_mt]
 rfl
theorem argT_R : ∀ (args : List DVal) (i : Nat) (l : List (Nat × DVal)) (T : Sl), SlR l T → ∃ l', SlR l' (argT args i T) ∧ mxS l' ≤ max (mxL args) (mxS l) ∧ ∀ t, getS l' t = if t < i then getS l t else if t < i + args.length then args.getD (t - i) .any else getS l t
 | [], i, l, T, h => ⟨l, h, by simp [mxL], fun t => by simp; intro h1 h2; omega⟩
 | d :: ds, i, l, T, h => by
  obtain ⟨l', h1, h2, h3⟩ := argT_R ds (i + 1) (putS l (some i) d) (Mp.put d i T) (h.put (some i) d)
  refine ⟨l', h1, ?_, fun t => ?_⟩
  ·have := mxS_putS l (some i) d
   simp only [mxL]
   omega
  ·rw [h3 t]
   simp only [putS, getS, List.length_cons]
   by_cases ht : t < i
   ·rw [if_pos (by omega), if_pos ht, if_neg (by omega)]
   ·rw [if_neg ht]
    by_cases hti : t = i
    ·subst hti
     rw [if_pos (by omega), if_pos rfl, if_pos (by omega)]
     simp
    ·rw [if_neg (by omega)]
     by_cases hlt : t < i + 1 + ds.length
     ·rw [if_pos hlt, if_pos (by omega)]
      rw [show t - i = (t - (i + 1)) + 1 by omega, List.getD_cons_succ]
     ·rw [if_neg hlt, if_neg hti, if_neg (by omega)]
theorem argS_R (args : List DVal) : SlR (argS args 0) (argT args 0 (Mp.mt 7)) := by
 obtain ⟨l', h1, _, h3⟩ := argT_R args 0 [] (Mp.mt 7) SlR_E
 intro i
 rw [← h1 i, h3 i, getS_argS]
 simp only [Nat.not_lt_zero, if_false, Nat.sub_zero, Nat.zero_add, getS]
 split
 ·rfl
 ·rename_i h
  rw [List.getD_eq_getElem?_getD, List.getElem?_eq_none (by omega)]
  rfl
theorem resK_eq {l : List (Nat × DVal)} {own : List Ent} {sl : Sl} {T : OT} (hs : SlR l sl) (ho : OwR own T) (rs : List ResultVar) : resK P sl T rs = resD P ⟨l, own⟩ rs := by
 have one : ∀ r, resOneK P sl T r = resOne P ⟨l, own⟩ r := by
  intro r
  cases r with
  | tmp t => simp only [resOneK, resOne, hs t]
  | cell a t => simp only [resOneK, resOne, hs a, cellsAt1 ho]; rfl
 have all : ∀ rs, resLK P sl T rs = resL P ⟨l, own⟩ rs := by
  intro rs
  induction rs with
  | nil => rfl
  | cons r rs ih => simp only [resLK, resL, one, ih]; rfl
 unfold resK resD
 rw [all]
 rfl
def RunOKK (P : Program) (ro : Option (Nat × Nat)) (nt : Nat) (c : Code) (s : KV) (e : Exit) (s' : KV) : Prop := ∀ l own, SlR l s.sl → OwR own s.ow → mxS l ≤ s.r → mxE own ≤ s.r →
 ∃ l' own', SlR l' s'.sl ∧ OwR own' s'.ow ∧ (s.r ≤ s'.r ∧ mxS l' ≤ s'.r ∧ mxE own' ≤ s'.r) ∧
  RunL P ro nt c l own s.r e l' own'
theorem putPT_R : ∀ (ps : List Nat) (ds : List DVal) (l : List (Nat × DVal)) (T : Sl), SlR l T → SlR (putP ps ds l) (putPT ps ds T)
 | [], ds, l, T, h => by cases ds <;> exact h
 | p :: ps, [], l, T, h => h
 | p :: ps, d :: ds, l, T, h => putPT_R ps ds _ _ (h.put (some p) d)
theorem yldK_ok {ec : Option (Nat × Nat) → Nat → Code → KV → Option (Exit × KV)} (hec : ∀ ro nt c s e s', ec ro nt c s = some (e, s') → RunOKK P ro nt c s e s') {id v : Nat} {args : List DVal} {T : OT} {r : Nat} {d : DVal} {T' : OT} {r' : Nat} (h : yldK ec id v args T r = some (d, T', r'))
  {own : List Ent} (ho : OwR own T) (hbd1 : mxE own ≤ r) (hbd2 : mxL args ≤ r) : ∃ own', OwR own' T' ∧ YSpecF P id v args own r d own' r' := by
 unfold yldK at h
 split at h
 rotate_left
 ·simp at h
 rename_i e0 he0
 split at h
 rotate_left
 ·simp at h
 rename_i sl nt ps assign body hob0
 split at h
 rotate_left
 ·simp at h
 rename_i hc
 simp only [Bool.and_eq_true, beq_iff_eq, List.all_eq_true] at hc
 obtain ⟨⟨hr0, hlen⟩, hpn⟩ := hc
 have hr0 := Nat.eq_of_beq_eq_true hr0
 unfold yldB at h
 split at h
 rotate_left
 ·simp at h
 rename_i s1 hs1
 split at h
 rotate_left
 ·simp at h
 rename_i e1 he1
 split at h
 rotate_left
 ·simp at h
 rename_i sl1 nt1 ps1 as1 bo1 hob1
 split at h
 rotate_left
 ·simp at h
 rename_i hr1
 have hr1 := Nat.eq_of_beq_eq_true hr1
 unfold yldC at h
 split at h
 rotate_left
 ·simp at h
 rename_i ex s2 hs2
 split at h
 rotate_left
 ·simp at h
 rename_i st' e2 hst he2
 split at h
 rotate_left
 ·simp at h
 rename_i sl2 nt2 ps2 as2 bo2 hob2
 split at h
 rotate_left
 ·simp at h
 rename_i hr2
 have hr2 := Nat.eq_of_beq_eq_true hr2
 simp only [Option.some.injEq, Prod.mk.injEq] at h
 obtain ⟨rfl, rfl, rfl⟩ := h
 rw [ho id] at he0
 have hsl : SlR (listT sl) sl := fun i => listT_get sl i
 have hmsl : mxS (listT sl) ≤ r := by
  have := (mem_mxE (findE_ent he0).1).2
  rw [hob0] at this
  simp only [mxO, mxT] at this
  omega
 have hm0 : mxS (putP ps.toList args (listT sl)) ≤ r := by
  have := mxS_putP ps.toList args (listT sl)
  omega
 obtain ⟨l1, own1, g1, g2, ⟨g3, g4, g5⟩, g6⟩ := hec _ _ _ _ _ _ hs1 (putP ps.toList args (listT sl)) own (putPT_R _ _ _ _ hsl) ho hm0 hbd1
 rw [g2 id] at he1
 have hm1 := mem_mxE (findE_ent he1).1
 rw [hob1] at hm1
 simp only [mxO] at hm1
 have hmb : mxE (upE own1 id v (.lrec .busy sl1 nt1 ps1 as1 bo1)) ≤ s1.r := by
  refine Nat.le_trans (mxE_upE _ _ _ _) ?_
  simp only [mxO]
  omega
 obtain ⟨l2, own2, k1, k2, ⟨k3, k4, k5⟩, k6⟩ := hec _ _ _ _ _ _ hs2 l1 (upE own1 id v (.lrec .busy sl1 nt1 ps1 as1 bo1)) g1 (g2.up ⟨id, v, .lrec .busy sl1 nt1 ps1 as1 bo1⟩) g4 hmb
 rw [k2 id] at he2
 refine ⟨_, k2.up ⟨id, v, .lrec st' sl2 nt2 ps2 as2 bo2⟩, ?_⟩
 exact round_ok he0 hr0 hob0 hlen (fun p hp => Nat.le_of_ble_eq_true (hpn p hp)) (fun i => listT_get sl i) (fun _ _ => g3) g6 he1 hr1 hob1 (fun _ _ => ⟨g4, g5⟩) (fun _ _ => k3) k6 he2 hr2 hob2 (fun _ _ => ⟨k4, k5⟩) hst
theorem callK_ok {ec : Option (Nat × Nat) → Nat → Code → KV → Option (Exit × KV)} (hO : CallOKK P O) (hec : ∀ ro nt c s e s', ec ro nt c s = some (e, s') → RunOKK P ro nt c s e s') : CallOKK P (callK P O ec) := by
 intro g args T r d T' r' h own ho hbd1 hbd2
 unfold callK at h
 split at h
 ·rename_i x hx
  simp only [Option.some.injEq] at h
  subst h
  exact hO _ _ _ _ _ _ _ hx own ho hbd1 hbd2
 cases g with
 | yl id v => exact yldK_ok hec h ho hbd1 hbd2
 | fn g =>
  simp only at h
  split at h
  ·simp at h
  ·rename_i fn hf
   split at h
   ·simp at h
   ·rename_i hnm
    simp only [Bool.or_eq_true, Bool.not_eq_true', decide_eq_false_iff_not, not_or, Bool.not_eq_true, Nat.not_le, Nat.not_lt] at hnm
    obtain ⟨hname, hlen⟩ := hnm
    split at h
    ·simp at h
    ·rename_i c hb
     split at h
     ·simp at h
     ·rename_i e s1 hrun
      have hen := Enters_of hf hname hb
      have hR := hec _ _ _ _ _ _ hrun
      obtain ⟨l1, own1, g1, g2, g3, g4⟩ := hR (argS args 0) own (argS_R args) ho (Nat.le_trans (mxS_argS _ _) hbd2) hbd1
      have main : ∀ (d0 : DVal), (e = .normal ∨ e = .ret) → resK P s1.sl s1.ow fn.results.toList = some d0 → SpecAtF P (.func g) args own r d0 own1 s1.r := by
       intro d0 he hres
       rw [resK_eq g1 g2] at hres
       refine ⟨hen, fun _ _ => ⟨g3.1, resD_mx hres g3.2.1 g3.2.2, g3.2.2⟩, fun M w loc vs _ _ S hr => ?_⟩
       refine FCalls_introI (N := r) (K := fun s d1 => s = ⟨l1, own1⟩ ∧ d1 = d0) [] (by simp) hf hb hen (by omega) S (by simp) hr (fun B hB => ?_) ?_
       ·refine g4 B hB.1.1.1 (by rw [hB.2]; exact Nat.le_refl _) hB.1.1.2 _ ?_
        rcases he with rfl | rfl
        ·exact ⟨d0, hres, rfl, rfl⟩
        ·exact ⟨d0, hres, rfl, rfl⟩
       ·rintro s loc' w' d1 v ⟨rfl, rfl⟩ S' hu hnew hver hrd
        exact ⟨loc', S', hu, hnew, hver, hrd⟩
      have fin : (match resK P s1.sl s1.ow fn.results.toList with
        | some d => some (d, s1.ow, s1.r)
        | none => none) = some (d, T', r') → (e = .normal ∨ e = .ret) → ∃ own', OwR own' T' ∧ SpecT P (.fn g) args own r d own' r' := by
       intro h he
       split at h
       ·rename_i d0 hres
        simp only [Option.some.injEq, Prod.mk.injEq] at h
        obtain ⟨rfl, rfl, rfl⟩ := h
        exact ⟨own1, g2, main _ he hres⟩
       ·simp at h
      split at h
      ·exact fin h (.inl rfl)
      ·exact fin h (.inr rfl)
      ·simp at h
end
end Go.Dm
end
section
namespace Go
section
variable {F : Fence} {n : Nat} {P : Program} {Q : Exit → Act → World → Prop} {a : Act} {w : World}
theorem stepR_scope {b : Frame} {k : List Item} {cs : List Frame} {c : Code} : step P (lone (b.atR a (.code (.scope c) :: k)) cs w) = .next (lone (b.atR a (.code c :: .inScope c :: k)) cs w) :=
 step_lone_go (by simp [stepG, stepG.exec, Frame.atR])
theorem stepR_inScope {b : Frame} {k : List Item} {cs : List Frame} {c : Code} : step P (lone (b.atR a (.inScope c :: k)) cs w) = .next (lone (b.atR a k) cs w) :=
 step_lone_go (by simp [stepG, stepG.exec, Frame.atR])
theorem wpIn_scope_straight {c : Code} (h : c.wpIn F n P (Exit.noGoto Q) a w) : (Code.scope c).wpIn F n P Q a w := by
 intro b k cs hro hb hr
 have h0 : (lone (b.atR a (.code (.scope c) :: k)) cs w).fenced P F := fenced_calm hb hr rfl
 obtain ⟨e, a₁, w₁, hq, harr⟩ := h b (.inScope c :: k) cs hro hb hr
 cases e with
 | normal => exact ⟨.normal, a₁, w₁, hq, .head h0 stepR_scope (StepsIn.trans harr (.one (fenced_calm hb hr rfl) stepR_inScope))⟩
 | exit id =>
  have hx : exitTo id (.inScope c :: k) = exitTo id k := by simp [exitTo]
  exact ⟨_, a₁, w₁, hq, fun k' hk => .head h0 stepR_scope (harr.1 k' (by rw [hx]; exact hk)),
   fun hr' hk => let ⟨k₁, h1, h2⟩ := harr.2 hr' (by rw [hx]; exact hk); ⟨k₁, h1, .head h0 stepR_scope h2⟩⟩
 | goto l => exact hq.elim
 | ret => exact ⟨_, a₁, w₁, hq, .of_steps (.one h0 stepR_scope) harr⟩
 | panic ch => exact ⟨_, a₁, w₁, hq, .of_steps (.one h0 stepR_scope) harr⟩
 | outgrown => exact ⟨_, a₁, w₁, hq, .of_steps (.one h0 stepR_scope) harr⟩
end
end Go
namespace Go.Dm
variable [DMode]
def Dscope (Q : Exit → DS → Prop) : Exit → DS → Prop
 | .goto _, _ => False
 | e, s => Q e s
theorem DW_scope {P : Program} {B : Base} {Q : Exit → DS → Prop} {s : DS} {c : Code} (h : DW P B c (Dscope Q) s) : DW P B (.scope c) Q s := by
 intro a w loc R
 refine wpIn_scope_straight (wpIn_mono (h a w loc R) ?_)
 rintro e a' w' ⟨s', loc', hq, R'⟩
 cases e <;> first
  | exact hq.elim
  | exact ⟨s', loc', hq, R'⟩
attribute [simp] Dscope
end Go.Dm
end
section
namespace Go.Dm
variable [DMode]
section
variable {P : Program} {O : CallK} {N : Nat}
theorem oneK_ok {call : CallK} (hc : CallOKK P call) {nt : Nat} {o : Oper} {s s' : KV} (h : oneK P nt call o s = some s') {l : List (Nat × DVal)} {own : List Ent} (hs : SlR l s.sl) (how : OwR own s.ow) (h1 : mxS l ≤ s.r) (h2 : mxE own ≤ s.r) :
  ∃ l' own', SlR l' s'.sl ∧ OwR own' s'.ow ∧ (s.r ≤ s'.r ∧ mxS l' ≤ s'.r ∧ mxE own' ≤ s'.r) ∧
  ∀ (B : Base), B.nt = nt → B.N ≤ s.r → ∀ (Q : Exit → DS → Prop) (a : Act) (w : World) (loc : Nat → Loc) (Q' : Exit → Act → World → Prop), Q .normal ⟨l', own'⟩ → Rel B ⟨l, own⟩ a w loc → o.wpIn (wd B.ro) 0 P a w (fun a' w' => QQ B Q .normal a' w') Q' := by
 unfold oneK at h
 split at h
 ·rename_i hg
  simp only [Bool.and_eq_true] at hg
  split at h
  ·split at h
   ·rename_i d ow r hout
    simp only [Option.some.injEq] at h
    subst h
    obtain ⟨own', ho', ho⟩ := outK_ok hc how h2 (fun y _ => by rw [← hs.ev]; exact Nat.le_trans (ev_mx l y) h1) hout
    rw [← hs.ev] at ho
    have hb := outF_mx (n := s.r) ho h2 (fun y _ => Nat.le_trans (ev_mx _ y) h1)
    refine ⟨putS l o.dst d, own', hs.put _ _, ho', ⟨hb.1, ?_, hb.2.2⟩, fun B hB hN Q a w loc Q' hQ R => ?_⟩
    ·refine Nat.le_trans (mxS_putS _ _ _) ?_
     have := hb.1; have := hb.2.1
     simp only
     omega
    ·subst hB
     exact outF_wp R (by unfold lim; simp only; omega) hg.2 (fun x _ => R.ev x) (fun x _ => ev_mx _ x) ho fun a' w' loc' R' => ⟨_, loc', hQ, R'⟩
   ·simp at h
  ·split at h
   ·rename_i d hout
    simp only [Option.some.injEq] at h
    subst h
    have ho := neuK_ok how hout
    rw [← hs.ev] at ho
    have hb : mx d ≤ s.r := by
     rcases ho with ⟨_, rfl⟩ | ho
     ·exact n_mx h2 o.op fun x _ => Nat.le_trans (ev_mx _ x) h1
     ·exact xVal_mx ho h2 fun x _ => Nat.le_trans (ev_mx _ x) h1
    refine ⟨putS l o.dst d, own, hs.put _ _, how, ⟨Nat.le_refl _, ?_, h2⟩, fun B hB hN Q a w loc Q' hQ R => ?_⟩
    ·refine Nat.le_trans (mxS_putS _ _ _) ?_
     simp only
     omega
    ·subst hB
     exact neuF_wp R hg.2 (fun x _ => R.ev x) ho (fun _ _ h => h) fun a' w' loc' R' => ⟨_, loc', hQ, R'⟩
   ·simp at h
 ·simp at h
theorem evFl1K_ok (hm : P.follows .mixedOrders = true) {call : CallK} (hc : CallOKK P call) {nt : Nat} {ops3 : Array Oper} {s s' : KV} (h : evFl1K P nt call ops3 s = some s') {l : List (Nat × DVal)} {own : List Ent} (hs : SlR l s.sl) (how : OwR own s.ow) (h1 : mxS l ≤ s.r) (h2 : mxE own ≤ s.r) :
  ∃ l' own', SlR l' s'.sl ∧ OwR own' s'.ow ∧ (s.r ≤ s'.r ∧ mxS l' ≤ s'.r ∧ mxE own' ≤ s'.r) ∧
  (∀ (B : Base), B.nt = nt → B.N ≤ s.r → ∀ (id : Nat) (Q : Exit → DS → Prop), Q .normal ⟨l', own'⟩ → DW P B (.region id ops3 true) Q ⟨l, own⟩) ∧
  ∀ (o2 : Oper), o2.guard = none → lastOK (ops3.pop.pop.size + 2) o2 (ops3.pop.pop.size + 2) = true → ∀ (B : Base), B.nt = nt → B.N ≤ s.r → ∀ (id : Nat) (Q : Exit → DS → Prop),
   (∀ (a : Act) (w : World) (loc : Nat → Loc) (Q' : Exit → Act → World → Prop), Rel B ⟨l', own'⟩ a w loc → o2.wpIn (wd B.ro) 0 P a w (fun a' w' => QQ B Q .normal a' w') Q') → DW P B (.region id (ops3.push o2) true) Q ⟨l, own⟩ := by
 unfold evFl1K at h
 split at h
 ·rename_i z o hzb hob
  split at h
  ·rename_i ty t hzo hzd
   split at h
   ·rename_i hfl
    split at h
    ·rename_i tr s1 cs hrun hcs
     split at h
     ·rename_i hfc
      simp only [Bool.and_eq_true] at hfc
      obtain ⟨hf, hone⟩ := hfc
      unfold flB at hfl
      simp only [Bool.and_eq_true, decide_eq_true_eq] at hfl
      obtain ⟨⟨⟨⟨⟨⟨⟨⟨⟨⟨⟨⟨c1, c2⟩, c3⟩, c4⟩, c5⟩, c6⟩, c7⟩, c8⟩, c9⟩, c10⟩, c11⟩, c12⟩, c13⟩ := hfl
      have hz : z.op = .alloc ty ∧ z.dst = some t ∧ z.guard = none ∧ z.after = #[] := ⟨hzo, hzd, by simpa using c5, by simpa using c6⟩
      have ho : o.guard = none := by simpa using c7
      have h3 : ops3 = (ops3.pop.pop.push z).push o := by rw [← pop_push hzb]; exact pop_push hob
      have h1' : mxS ((t, DVal.any) :: l) ≤ s.r := by simp only [mxS, mx]; omega
      obtain ⟨owns, vers, R1, v0, v1, sl, o1, qs, qo⟩ := evOpsK_RunF (l := (t, DVal.any) :: l) hc hrun (hs.put (some t) .any) how ⟨h1', h2⟩
      obtain ⟨⟨b1, b2⟩, b3⟩ := R1.bnd ops3.pop.pop.size (Nat.le_refl _)
      have b4 := b3 0 (Nat.zero_le _)
      rw [List.take_of_length_le (by simp [R1.len])] at b1
      rw [v0, v1] at b4
      rw [v1] at b1 b2
      simp only at b4 b1
      have hcs0 : mxL cs = 0 := tZero_mx hcs
      have g1 : mxS ((t, DVal.bx s1.r s1.r 0) :: lexS ((t, DVal.any) :: l) (ops3.pop.pop.toList.zip (tr.map (·.1)))) ≤ s1.r + 1 := by simp only [mxS, mx]; omega
      have g2 : mxE (upE (owns ops3.pop.pop.size) s1.r s1.r (.box cs)) ≤ s1.r + 1 := by
       refine Nat.le_trans (mxE_upE _ _ _ _) ?_
       simp only [mxO]
       omega
      obtain ⟨l', own', r1, r2, ⟨k1, k2, k3⟩, k4⟩ := oneK_ok hc h (sl.put (some t) _) (o1.up ⟨s1.r, s1.r, .box cs⟩) g1 g2
      simp only at k1
      refine ⟨l', own', r1, r2, ⟨by omega, k2, k3⟩, fun B hB hN id Q hQ => ?_, fun o2 ho2 hl2 B hB hN id Q hfin2 => ?_⟩
      ·subst hB
       refine DW_sub (s' := ⟨(t, .any) :: l, own⟩) (fun a w loc R => ⟨loc, R.drop t⟩) ?_
       refine DW_region_floatF (ltOf o ops3.pop.pop.size) hm h3 R1 (floatK_ok R1 qs qo hf) (by rw [v0]; exact hN) hz ho c8 c10 (lateB_p c9) c1 c11 c2 (by simp [getS]) hcs hone ?_
       intro a w loc Q' R
       rw [v1] at R
       exact k4 B rfl (by simp only; omega) Q a w loc Q' hQ R
      ·subst hB
       refine DW_sub (s' := ⟨(t, .any) :: l, own⟩) (fun a w loc R => ⟨loc, R.drop t⟩) ?_
       refine DW_region_float2F (Q1 := fun e s2 => e = .normal ∧ s2 = ⟨l', own'⟩) (ltOf o ops3.pop.pop.size) hm h3 R1 (floatK_ok R1 qs qo hf) (by rw [v0]; exact hN) hz ho c8 c10 (lateB_p c9) c1 ho2 hl2 c11 c2 (by simp [getS]) hcs hone ?_ (fun e he s2 hq => absurd hq.1 he) ?_
       ·intro a w loc Q' R
        rw [v1] at R
        exact k4 B rfl (by simp only; omega) (fun e s2 => e = .normal ∧ s2 = ⟨l', own'⟩) a w loc Q' ⟨rfl, rfl⟩ R
       ·rintro s2 a w loc Q' ⟨_, rfl⟩ R
        exact hfin2 a w loc Q' R
     ·simp at h
    ·simp at h
   ·simp at h
  ·simp at h
 ·simp at h
theorem evFlK_ok (hm : P.follows .mixedOrders = true) {call : CallK} (hc : CallOKK P call) {nt : Nat} {ops : Array Oper} {s s' : KV} (h : evFlK P nt call ops s = some s') {l : List (Nat × DVal)} {own : List Ent} (hs : SlR l s.sl) (how : OwR own s.ow) (h1 : mxS l ≤ s.r) (h2 : mxE own ≤ s.r) :
  ∃ l' own', SlR l' s'.sl ∧ OwR own' s'.ow ∧ (s.r ≤ s'.r ∧ mxS l' ≤ s'.r ∧ mxE own' ≤ s'.r) ∧
  (∀ (B : Base), B.nt = nt → B.N ≤ s.r → ∀ (id : Nat) (Q : Exit → DS → Prop), Q .normal ⟨l', own'⟩ → DW P B (.region id ops true) Q ⟨l, own⟩) := by
 unfold evFlK at h
 split at h
 ·rename_i o2 hob
  split at h
  ·obtain ⟨l', own', r1, r2, g0, g1, _⟩ := evFl1K_ok hm hc h hs how h1 h2
   exact ⟨l', own', r1, r2, g0, g1⟩
  ·split at h
   ·rename_i hl2
    split at h
    ·rename_i s1 hs1
     obtain ⟨l1, own1, r1, r2, ⟨g1, g2, g3⟩, _, g4⟩ := evFl1K_ok hm hc hs1 hs how h1 h2
     have ho2 : o2.guard = none := by
      have h' := h
      unfold oneK at h'
      split at h'
      ·rename_i hg
       simp only [Bool.and_eq_true] at hg
       simpa using hg.1
      ·simp at h'
     obtain ⟨l', own', r3, r4, ⟨k1, k2, k3⟩, k4⟩ := oneK_ok hc h r1 r2 g2 g3
     refine ⟨l', own', r3, r4, ⟨by omega, k2, k3⟩, fun B hB hN id Q hQ => ?_⟩
     rw [pop_push hob]
     exact g4 o2 ho2 hl2 B hB hN id Q fun a w loc Q' R => k4 B hB (by omega) Q a w loc Q' hQ R
    ·simp at h
   ·simp at h
 ·simp at h
theorem evLoopK_ok {ro : Option (Nat × Nat)} {nt : Nat} {b : Code} {body : KV → Option (Exit × KV)} (hb : ∀ s e s', body s = some (e, s') → RunOKK P ro nt b s e s') : ∀ (m : Nat) (s : KV) (e : Exit) (s' : KV), evLoopK body m s = some (e, s') →
  ∀ l own, SlR l s.sl → OwR own s.ow → mxS l ≤ s.r → mxE own ≤ s.r → ∃ l' own', SlR l' s'.sl ∧ OwR own' s'.ow ∧ (s.r ≤ s'.r ∧ mxS l' ≤ s'.r ∧ mxE own' ≤ s'.r) ∧
  ∀ B : Base, B.nt = nt → B.N ≤ s.r → roOK ro B → ∀ Q : Exit → DS → Prop, Q e ⟨l', own'⟩ → ∀ a w loc, Rel B ⟨l, own⟩ a w loc → Code.roundsIn (wd B.ro) 0 P b (QQ B Q) m a w
 | 0, s, e, s', h => by simp [evLoopK] at h
 | m + 1, s, e, s', h => by
  intro l own hs how h1 h2
  simp only [evLoopK] at h
  split at h
  ·rename_i s1 hbody
   obtain ⟨l1, own1, r1, r2, ⟨g1, g2, g3⟩, g4⟩ := hb _ _ _ hbody l own hs how h1 h2
   obtain ⟨l', own', r3, r4, ⟨k1, k2, k3⟩, k4⟩ := evLoopK_ok hb m _ _ _ h l1 own1 r1 r2 g2 g3
   refine ⟨l', own', r3, r4, ⟨Nat.le_trans g1 k1, k2, k3⟩, fun B hB hN hro Q hQ a w loc R => ?_⟩
   rw [roundsIn_succ]
   refine wpIn_mono (g4 B hB hN hro (fun e2 s2 => e2 = .normal ∧ s2 = ⟨l1, own1⟩) ⟨rfl, rfl⟩ a w loc R) ?_
   rintro e2 a' w' ⟨s2, loc', ⟨rfl, rfl⟩, R'⟩
   exact k4 B hB (Nat.le_trans hN g1) hro Q hQ a' w' loc' R'
  ·rename_i hne
   obtain ⟨l', own', r1, r2, g0, g4⟩ := hb _ _ _ h l own hs how h1 h2
   refine ⟨l', own', r1, r2, g0, fun B hB hN hro Q hQ a w loc R => ?_⟩
   rw [roundsIn_succ]
   refine wpIn_mono (g4 B hB hN hro (fun e2 s2 => e2 = e ∧ s2 = ⟨l', own'⟩) ⟨rfl, rfl⟩ a w loc R) ?_
   rintro e2 a' w' ⟨s2, loc', ⟨rfl, rfl⟩, R'⟩
   cases e2 with
   | normal => exact absurd h (by simpa using hne s')
   | exit id => exact ⟨_, loc', hQ, R'⟩
   | goto l => exact ⟨_, loc', hQ, R'⟩
   | ret => exact ⟨_, loc', hQ, R'⟩
   | panic c => exact ⟨_, loc', hQ, R'⟩
   | outgrown => exact ⟨_, loc', hQ, R'⟩
theorem rfK_ok {call : CallK} (hc : CallOKK P call) {ro : Option (Nat × Nat)} {nt : Nat} {x : Operand} {ps : Array Tmp} {assign body : Code} {s s' : KV} {e : Exit} (h : rfK call ro nt x ps assign body s = some (e, s')) {l : List (Nat × DVal)} {own : List Ent} (hs : SlR l s.sl) (how : OwR own s.ow) (h1 : mxS l ≤ s.r) (h2 : mxE own ≤ s.r) :
  ∃ l' own', SlR l' s'.sl ∧ OwR own' s'.ow ∧ (s.r ≤ s'.r ∧ mxS l' ≤ s'.r ∧ mxE own' ≤ s'.r) ∧ RunL P ro nt (.rangeFunc x ps assign body) l own s.r e l' own' := by
 unfold rfK at h
 split at h
 rotate_left
 ·simp at h
 rename_i g us cs hro hx
 unfold rfEnd at h
 split at h
 rotate_left
 ·simp at h
 rename_i T2 r2 hcall
 split at h
 rotate_left
 ·simp at h
 rename_i e2 he2
 split at h
 rotate_left
 ·simp at h
 rename_i st sl2 nt2 ps2 as2 bo2 hob2
 split at h
 rotate_left
 ·simp at h
 rename_i ex hr2 hex
 have hr2 := Nat.eq_of_beq_eq_true hr2
 simp only [Option.some.injEq, Prod.mk.injEq] at h
 obtain ⟨rfl, rfl⟩ := h
 have hxl : ev l x = .fn (.func g) us cs := by rw [hs.ev]; exact hx
 have hmf : mxL us ≤ s.r ∧ mxL cs ≤ s.r := by
  have h := ev_mx l x
  rw [hxl] at h
  simp only [mx] at h
  omega
 have hmT : mxT s.sl ≤ s.r := mxT_le fun i => by rw [← hs i]; exact Nat.le_trans (mx_getS l i) h1
 have hbd : mxE (upE own s.r s.r (.lrec .ready s.sl nt ps assign body)) ≤ s.r + 1 := by
  refine Nat.le_trans (mxE_upE _ _ _ _) ?_
  simp only [mxO]; omega
 have hbl : mxL (us ++ .pk s.r s.r :: cs) ≤ s.r + 1 := by
  rw [mxL_append']; simp only [mxL, mx]; omega
 obtain ⟨own2, g1, hS⟩ := hc _ _ _ _ _ _ _ hcall _ (how.up ⟨s.r, s.r, .lrec .ready s.sl nt ps assign body⟩) hbd hbl
 have hb := hS.2.1 hbd hbl
 rw [g1 s.r] at he2
 have hm2 := mem_mxE (findE_ent he2).1
 rw [hob2] at hm2
 simp only [mxO] at hm2
 refine ⟨l, _, hs, g1.up ⟨s.r, s.r, .lrec (.out st.p) sl2 nt2 ps2 as2 bo2⟩, ⟨by show s.r ≤ r2; omega, by show mxS l ≤ r2; omega, ?_⟩, range_ok (fun i => hs i) hxl h1 h2 ?_ hS he2 hr2 hob2 hex⟩
 ·refine Nat.le_trans (mxE_upE _ _ _ _) ?_
  simp only [mxO]; omega
 ·rintro id v rfl
  unfold roB at hro
  simp only at hro
  split at hro
  ·rename_i er her
   simp only [Bool.and_eq_true] at hro
   have hv := Nat.eq_of_beq_eq_true hro.1
   rw [how id] at her
   have h3 := hro.2
   split at h3
   ·rename_i hob
    exact ⟨er, _, _, _, _, _, _, her, hv, hob⟩
   ·simp at h3
  ·simp at hro
theorem evCL_ok (hm : P.follows .mixedOrders = true) {call : CallK} (hcall : CallOKK P call) (c : Code) : ∀ (ro : Option (Nat × Nat)) (nt : Nat) (s : KV) (e : Exit) (s' : KV), evCL P N call c ro nt s = some (e, s') → RunOKK P ro nt c s e s' := by
 induction c <;> intro ro nt s e s' h l own hs how h1 h2 <;>
 have here : ∀ {e : Exit} {s' : KV} {c : Code}, s' = s → (∀ (B : Base) (Q : Exit → DS → Prop), Q e ⟨l, own⟩ → DW P B c Q ⟨l, own⟩) → ∃ l' own', SlR l' s'.sl ∧ OwR own' s'.ow ∧ (s.r ≤ s'.r ∧ mxS l' ≤ s'.r ∧ mxE own' ≤ s'.r) ∧ RunL P ro nt c l own s.r e l' own' := by
  rintro e _ c rfl hd
  exact ⟨l, own, hs, how, ⟨Nat.le_refl _, h1, h2⟩, fun B _ _ _ Q hQ => hd B Q hQ⟩
 case skip =>
  simp only [evCL, Option.some.injEq, Prod.mk.injEq] at h
  obtain ⟨rfl, rfl⟩ := h
  exact here rfl fun B Q hQ => DW_skip hQ
 case exit id =>
  simp only [evCL, Option.some.injEq, Prod.mk.injEq] at h
  obtain ⟨rfl, rfl⟩ := h
  exact here rfl fun B Q hQ => DW_exit hQ
 case ret =>
  simp only [evCL, Option.some.injEq, Prod.mk.injEq] at h
  obtain ⟨rfl, rfl⟩ := h
  exact here rfl fun B Q hQ => DW_ret hQ
 case label l =>
  simp only [evCL, Option.some.injEq, Prod.mk.injEq] at h
  obtain ⟨rfl, rfl⟩ := h
  exact here rfl fun B Q hQ => DW_label hQ
 case region id ops draw =>
  simp only [evCL] at h
  split at h
  ·rename_i hd
   simp only [Bool.and_eq_true] at hd
   split at h
   ·rename_i s1 hfl
    simp only [Option.some.injEq, Prod.mk.injEq] at h
    obtain ⟨rfl, rfl⟩ := h
    obtain ⟨l', own', r1, r2, g0, g1⟩ := evFlK_ok hm hcall hfl hs how h1 h2
    rw [hd.1]
    exact ⟨l', own', r1, r2, g0, fun B hB hN hro Q hQ => g1 B hB hN id Q hQ⟩
   ·simp at h
  split at h
  ·rename_i tr s1 hrun
   obtain ⟨owns, vers, R1, v0, v1, sl, o1, qs, qo⟩ := evOpsK_RunF hcall hrun hs how ⟨h1, h2⟩
   obtain ⟨⟨b1, b2⟩, b3⟩ := R1.bnd ops.size (Nat.le_refl _)
   have b4 := b3 0 (Nat.zero_le _)
   rw [List.take_of_length_le (by simp [R1.len])] at b1
   rw [v0, v1] at b4
   rw [v1] at b1 b2
   have bb : s.r ≤ s1.r ∧ mxS (lexS l (ops.toList.zip (tr.map (·.1)))) ≤ s1.r ∧ mxE (owns ops.size) ≤ s1.r := ⟨b4, b1, b2⟩
   split at h
   ·rename_i hd
    split at h
    ·rename_i hf
     simp only [Option.some.injEq, Prod.mk.injEq] at h
     obtain ⟨rfl, rfl⟩ := h
     refine ⟨_, _, sl, o1, bb, fun B hB hN hro Q hQ => ?_⟩
     subst hB
     rw [hd]
     exact DW_region_drawF hm R1 (floatK_ok R1 qs qo hf) (by rw [v0]; exact hN) hQ
    ·simp at h
   ·rename_i hd
    simp only [Option.some.injEq, Prod.mk.injEq] at h
    obtain ⟨rfl, rfl⟩ := h
    refine ⟨_, _, sl, o1, bb, fun B hB hN hro Q hQ => ?_⟩
    subst hB
    rw [show draw = false by simpa using hd]
    exact DW_region_textF R1 (by rw [v0]; exact hN) hQ
  ·simp at h
 case scope b ih =>
  simp only [evCL] at h
  split at h
  ·simp at h
  ·rename_i hne
   obtain ⟨l', own', r1, r2, g0, g4⟩ := ih _ _ _ _ _ h l own hs how h1 h2
   refine ⟨l', own', r1, r2, g0, fun B hB hN hro Q hQ => DW_scope (g4 B hB hN hro _ ?_)⟩
   cases e with
   | goto l => exact absurd h (by simpa using hne l s')
   | _ => exact hQ
 case seq x y ihx ihy =>
  simp only [evCL] at h
  split at h
  ·rename_i s1 hx
   obtain ⟨l1, own1, r1, r2, ⟨g1, g2, g3⟩, g4⟩ := ihx _ _ _ _ _ hx l own hs how h1 h2
   obtain ⟨l', own', r3, r4, ⟨k1, k2, k3⟩, k4⟩ := ihy _ _ _ _ _ h l1 own1 r1 r2 g2 g3
   exact ⟨l', own', r3, r4, ⟨Nat.le_trans g1 k1, k2, k3⟩, fun B hB hN hro Q hQ => DW_seq fun K hK => g4 B hB hN hro _ (hK _ (k4 B hB (Nat.le_trans hN g1) hro Q hQ))⟩
  ·rename_i hne
   obtain ⟨l', own', r1, r2, g0, g4⟩ := ihx _ _ _ _ _ h l own hs how h1 h2
   refine ⟨l', own', r1, r2, g0, fun B hB hN hro Q hQ => DW_seq fun K hK => g4 B hB hN hro _ ?_⟩
   cases e with
   | normal => exact absurd h (by simpa using hne s')
   | exit id => exact hQ
   | goto l => exact hQ
   | ret => exact hQ
   | panic c => exact hQ
   | outgrown => exact hQ
 case cond x y z ihy ihz =>
  simp only [evCL] at h
  split at h
  ·rename_i hc
   obtain ⟨l', own', r1, r2, g0, g4⟩ := ihy _ _ _ _ _ h l own hs how h1 h2
   exact ⟨l', own', r1, r2, g0, fun B hB hN hro Q hQ => DW_cond (b := true) (by rw [hs.ev]; exact hc) (fun _ => g4 B hB hN hro Q hQ) (fun h => by simp at h)⟩
  ·rename_i hc
   obtain ⟨l', own', r1, r2, g0, g4⟩ := ihz _ _ _ _ _ h l own hs how h1 h2
   exact ⟨l', own', r1, r2, g0, fun B hB hN hro Q hQ => DW_cond (b := false) (by rw [hs.ev]; exact hc) (fun h => by simp at h) (fun _ => g4 B hB hN hro Q hQ)⟩
  ·simp at h
 case block id b ih =>
  simp only [evCL] at h
  split at h
  ·rename_i j s1 hb
   obtain ⟨l', own', r1, r2, g0, g4⟩ := ih _ _ _ _ _ hb l own hs how h1 h2
   split at h
   ·rename_i hj
    simp only [Option.some.injEq, Prod.mk.injEq] at h
    obtain ⟨rfl, rfl⟩ := h
    exact ⟨l', own', r1, r2, g0, fun B hB hN hro Q hQ => DW_block (g4 B hB hN hro _ (by simp only [Dblock]; rw [if_pos hj]; exact hQ))⟩
   ·rename_i hj
    simp only [Option.some.injEq, Prod.mk.injEq] at h
    obtain ⟨rfl, rfl⟩ := h
    exact ⟨l', own', r1, r2, g0, fun B hB hN hro Q hQ => DW_block (g4 B hB hN hro _ (by simp only [Dblock]; rw [if_neg hj]; exact hQ))⟩
  ·rename_i hne
   obtain ⟨l', own', r1, r2, g0, g4⟩ := ih _ _ _ _ _ h l own hs how h1 h2
   refine ⟨l', own', r1, r2, g0, fun B hB hN hro Q hQ => DW_block (g4 B hB hN hro _ ?_)⟩
   cases e with
   | exit j => exact absurd h (by simpa using hne j s')
   | normal => exact hQ
   | goto l => exact hQ
   | ret => exact hQ
   | panic c => exact hQ
   | outgrown => exact hQ
 case loop b ih =>
  simp only [evCL] at h
  obtain ⟨l', own', r1, r2, g0, g4⟩ := evLoopK_ok (fun s e s' hs => ih _ _ _ _ _ hs) _ _ _ _ h l own hs how h1 h2
  exact ⟨l', own', r1, r2, g0, fun B hB hN hro Q hQ a w loc R => wpIn_loop_rounds N (g4 B hB hN hro Q hQ a w loc R)⟩
 case rangeFunc x ps assign body =>
  simp only [evCL] at h
  exact rfK_ok hcall h hs how h1 h2
 all_goals simp [evCL] at h
noncomputable def callN (P : Program) (O : CallK) (N : Nat) : Nat → CallK
 | 0 => fun _ _ _ _ => none
 | n + 1 => callK P O (fun ro nt c s => evCL P N (callN P O N n) c ro nt s)
theorem callN_ok (hm : P.follows .mixedOrders = true) (hO : CallOKK P O) : ∀ n, CallOKK P (callN P O N n)
 | 0 => fun _ _ _ _ _ _ _ h => by simp [callN] at h
 | n + 1 => callK_ok hO fun ro nt c s e s' h => evCL_ok hm (callN_ok hm hO n) c ro nt s e s' h
end
end Go.Dm
end
