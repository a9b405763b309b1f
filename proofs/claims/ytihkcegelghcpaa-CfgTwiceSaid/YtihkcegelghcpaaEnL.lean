/- The data machine, second make, part L: regions that draw their order, with operations that change own objects: the text's order serves for all. -/
import Derived.Test.YtihkcegelghcpaaEnK
set_option linter.unusedSimpArgs false
set_option linter.unusedVariables false
namespace Go.Dm

section
variable {P : Program} {o : Oper} {l l' : List (Nat × DVal)} {own : List Ent} {r n : Nat}

theorem eRes_congr {e1 e2 : Operand → DVal} (h : ∀ x ∈ o.op.operands, e1 x = e2 x) : eRes P o e1 own r = eRes P o e2 own r := by
  unfold eRes
  obtain ⟨dst, op, type, pos, after, guard⟩ := o
  simp only at h ⊢
  cases op <;> simp only [Op.operands] at h <;> simp only
  case box t x => rw [h x (by simp)]
  case store t a x => rw [h a (by simp), h x (by simp)]
  case mapUpdate t m k x => rw [h m (by simp), h k (by simp), h x (by simp)]
  case makeSlice t l c => rw [h l (by simp), h c (by simp)]
  case buildSlice t n ps =>
    have hc := (n_congr0 (P := P) (own := own) (e := e1) (e' := e2) (.buildSlice t n ps) h).1
    have e1 : (ps.toList.map fun p => cellsD (e1 p.2)) = ps.toList.map fun p => cellsD (e2 p.2) := List.map_congr_left fun p hm => by rw [h p.2 (by simpa using ⟨p.1, by simpa using hm⟩)]
    rw [propext hc, e1]
  case call c =>
    obtain ⟨cal, args, ts⟩ := c
    cases cal with
    | builtin b =>
      have : args.toList.map (e1) = args.toList.map (e2) := List.map_congr_left fun x hx => h x (by simp [Call.operands]; simpa using hx)
      cases b <;> simp only [this]
    | value f => rfl
    | invoke a b => rfl

theorem pkOf_congr {e1 e2 : Operand → DVal} {c : Call} (h : ∀ x ∈ c.operands, e1 x = e2 x) : pkOf e1 c = pkOf e2 c := by
  obtain ⟨cal, args, ts⟩ := c
  cases cal with
  | value f =>
    have h1 : args.toList.map e1 = args.toList.map e2 := List.map_congr_left fun x hx => h x (by simp [Call.operands]; simp at hx; exact .inr hx)
    have h2 := h f (by simp [Call.operands])
    simp only [pkOf, h1, h2]
  | builtin b => rfl
  | invoke a b => rfl

theorem EOut_congr {e1 e2 : Operand → DVal} {d : DVal} {own' : List Ent} (h : ∀ x ∈ o.op.operands, e1 x = e2 x) (hx : EOut P o e1 own r d own') : EOut P o e2 own r d own' := by
  rcases hx with ⟨x, h1, h2⟩ | ⟨c, g, args, h1, h2, h3⟩ | ⟨c, id, r', args, e0, l, e, A, A', b, h1, h2, h3⟩
  · exact .inl ⟨x, by rw [← eRes_congr h]; exact h1, h2⟩
  · exact .inr (.inl ⟨c, g, args, h1, by rw [← callee_congr (fun x hx => h x (by rw [h1]; exact hx))]; exact h2, h3⟩)
  · exact .inr (.inr ⟨c, id, r', args, e0, l, e, A, A', b, h1, by rw [← pkOf_congr (fun x hx => h x (by rw [h1]; exact hx))]; exact h2, h3⟩)

theorem mxE_upE (own : List Ent) (id r : Nat) (obj : DObj) : mxE (upE own id r obj) ≤ max (max (r + 1) (mxO obj)) (mxE own) := by
  have : mxE (delE own id) ≤ mxE own := by
    induction own with
    | nil => simp [delE]
    | cons e t ih =>
      simp only [delE]
      split
      · simp only [mxE]; omega
      · simp only [mxE]; omega
  simp only [upE, mxE]
  omega

theorem tZero_one {z : List DVal} {t : TypeId} (h : tZero P t = some z) : mxL z = 0 := tZero_mx h

theorem eRes_mx {x : ERes} {ed : Operand → DVal} (h : eRes P o ed own r = some x) (hp : x.pre) (ho : mxE own ≤ n) (hev : ∀ y ∈ o.op.operands, mx (ed y) ≤ n) (hr : n ≤ r) : mx x.d ≤ r + 1 ∧ mxE x.own ≤ r + 1 := by
  obtain ⟨dst, op, type, pos, after, guard⟩ := o
  unfold eRes at h
  simp only at h
  cases op <;> simp only [reduceCtorEq] at h
  case box t y =>
    split at h
    · rename_i i
      simp only [Option.some.injEq] at h
      subst h
      refine ⟨by simp [mx], Nat.le_trans (mxE_upE _ _ _ _) ?_⟩
      have := hev y (by simp [Op.operands])
      simp only [mxO, mx_cellsD]
      omega
    · simp at h
  case buildSlice t len ps =>
    split at h
    · simp only [Option.some.injEq] at h
      subst h
      refine ⟨by simp [mx], Nat.le_trans (mxE_upE _ _ _ _) ?_⟩
      have : mxR (ps.toList.map fun p => cellsD (ed p.2)) ≤ n := mxR_le fun cs hm => by
        obtain ⟨p, hp', rfl⟩ := List.mem_map.1 hm
        rw [mx_cellsD]
        exact hev p.2 (by simpa [Op.operands] using ⟨p.1, by simpa using hp'⟩)
      simp only [mxO]
      omega
    · simp at h
  case alloc t =>
    split at h
    · rename_i i z hi hz
      simp only [Option.some.injEq] at h
      subst h
      refine ⟨by simp [mx], Nat.le_trans (mxE_upE _ _ _ _) ?_⟩
      simp only [mxO, tZero_mx hz]
      omega
    · simp at h
  case store t ad y =>
    split at h
    · rename_i id r' off had
      split at h
      · rename_i e he
        split at h
        · rename_i cs hob
          simp only [Option.some.injEq] at h
          subst h
          refine ⟨by simp [mx], Nat.le_trans (mxE_upE _ _ _ _) ?_⟩
          simp only at hp
          obtain ⟨h1, h2⟩ := mem_mxE (findE_ent he).1
          rw [hob] at h2
          simp only [mxO] at h2 ⊢
          have h3 := splice_mx cs off (cellsD (ed y))
          have h4 := hev y (by simp [Op.operands, Call.operands])
          rw [mx_cellsD] at h3
          have := hp.1
          omega
        · simp at h
      · simp at h
    · unfold eStoreRow at h
      split at h
      · rename_i e he
        split at h
        · rename_i hob
          split at h
          · rename_i c0 hc0
            simp only [Option.some.injEq] at h
            subst h
            refine ⟨by simp [mx], Nat.le_trans (mxE_upE _ _ _ _) ?_⟩
            simp only at hp
            obtain ⟨h1, h2⟩ := mem_mxE (findE_ent he).1
            rw [hob] at h2
            simp only [mxO] at h2 ⊢
            have h3 := splice_mx c0
            have h4 := hev y (by simp [Op.operands, Call.operands])
            have h5 := hp.1
            have h6 := mxR_at hc0
            refine Nat.max_le.2 ⟨Nat.max_le.2 ⟨by omega, mxR_set _ _ (by omega) (Nat.le_trans (h3 _ _) ?_)⟩, by omega⟩
            rw [mx_cellsD]
            omega
          · simp at h
        · simp at h
      · simp at h
    · simp at h
  case makeSlice t lo co =>
    unfold eMake at h
    split at h
    · rename_i hz _ _
      simp only [Option.some.injEq] at h
      subst h
      refine ⟨by simp [mx], Nat.le_trans (mxE_upE _ _ _ _) ?_⟩
      simp only [mxO]
      unfold tZeroE at hz
      split at hz
      · refine Nat.max_le.2 ⟨Nat.max_le.2 ⟨by omega, Nat.le_trans (mxR_rep (Nat.le_of_eq (tZero_mx hz))) (by omega)⟩, by omega⟩
      · simp at hz
    · simp at h
  case makeMap t rv =>
    split at h
    · simp only [Option.some.injEq] at h
      subst h
      refine ⟨by simp [mx], Nat.le_trans (mxE_upE _ _ _ _) ?_⟩
      simp only [mxO, mxL]
      omega
    · simp at h
  case mapUpdate t m k x =>
    split at h
    · split at h
      · rename_i e he
        split at h
        · rename_i ks vs hob
          simp only [Option.some.injEq] at h
          subst h
          refine ⟨by simp [mx], Nat.le_trans (mxE_upE _ _ _ _) ?_⟩
          simp only at hp
          obtain ⟨h1, h2⟩ := mem_mxE (findE_ent he).1
          rw [hob] at h2
          simp only [mxO] at h2 ⊢
          have h3 := mxL_updK ks (ed k)
          have h4 := mxL_updV ks vs (ed k) (ed x)
          have h5 := hev k (by simp [Op.operands, Call.operands])
          have h6 := hev x (by simp [Op.operands, Call.operands])
          have := hp.1
          omega
        · simp at h
      · simp at h
    · simp at h
  case call c =>
    obtain ⟨cal, args, ats⟩ := c
    cases cal <;> simp only [reduceCtorEq] at h
    rename_i b
    cases b <;> simp only [reduceCtorEq] at h
    case append =>
      unfold eAppend at h
      split at h
      · rename_i da db t t' hargs hts
        split at h
        · rename_i i k bs et _ _
          split at h
          · rename_i id es k2 es2 hdest hsrc
            simp only [Option.some.injEq] at h
            subst h
            have hda : mx da ≤ n := by
              have : da ∈ args.toList.map (ed) := by rw [hargs]; simp
              obtain ⟨y, hy, rfl⟩ := List.mem_map.1 this
              exact hev y (by simpa [Op.operands, Call.operands] using hy)
            have hdb : mx db ≤ n := by
              have : db ∈ args.toList.map (ed) := by rw [hargs]; simp
              obtain ⟨y, hy, rfl⟩ := List.mem_map.1 this
              exact hev y (by simpa [Op.operands, Call.operands] using hy)
            refine ⟨by simp [mx], Nat.le_trans (mxE_upE _ _ _ _) ?_⟩
            simp only [mxO, mxR_append]
            have h1 : mxR es ≤ n := by
              unfold destOf at hdest
              split at hdest
              · simp only [Option.some.injEq, Prod.mk.injEq] at hdest
                obtain ⟨_, rfl⟩ := hdest
                simp [mxR]
              · split at hdest
                · rename_i e0 he0
                  split at hdest
                  · split at hdest
                    · rename_i hob
                      split at hdest
                      · simp only [Option.some.injEq, Prod.mk.injEq] at hdest
                        obtain ⟨_, rfl⟩ := hdest
                        have := (mem_mxE (findE_ent he0).1).2
                        rw [hob] at this
                        simp only [mxO] at this
                        omega
                      · simp at hdest
                    · simp at hdest
                  · simp at hdest
                · simp at hdest
              · simp at hdest
            have h2 : mxR es2 ≤ n := by
              unfold rowsN at hsrc
              split at hsrc
              · simp only [Option.some.injEq, Prod.mk.injEq] at hsrc
                obtain ⟨_, rfl⟩ := hsrc
                simp [mxR]
              · simp only [Option.some.injEq, Prod.mk.injEq] at hsrc
                obtain ⟨_, rfl⟩ := hsrc
                simp [mxR]
              · rw [Option.map_eq_some_iff] at hsrc
                obtain ⟨⟨k', b', es'⟩, h1, h2⟩ := hsrc
                simp only [Prod.mk.injEq] at h2
                obtain ⟨_, rfl⟩ := h2
                have := rowsOf_mx h1
                omega
            omega
          · simp at h
        · simp at h
      · simp at h
    case clear =>
      have key : ∀ {zs : List DVal} {t : TypeId} {es : List (List DVal)} {i m N : Nat}, tZeroE P t = some zs → mxR es ≤ N → mxR (clearD es i m zs) ≤ N := by
        intro zs t es i m N hz hes
        unfold tZeroE at hz
        split at hz
        · unfold clearD
          rw [mxR_append, mxR_append]
          have := mxR_take i es
          have := mxR_drop (i + m) es
          have := mxR_rep (n := 0) (m := m) (Nat.le_of_eq (tZero_mx hz))
          omega
        · simp at hz
      unfold eClear at h
      split at h
      · split at h
        · rename_i hz
          split at h
          · split at h
            · rename_i e he
              split at h
              · rename_i hob
                simp only [Option.some.injEq] at h
                subst h
                refine ⟨by simp [mx, mxL], Nat.le_trans (mxE_upE _ _ _ _) ?_⟩
                simp only at hp
                obtain ⟨h1, h2⟩ := mem_mxE (findE_ent he).1
                rw [hob] at h2
                simp only [mxO] at h2 ⊢
                have h3 := hp.1
                exact Nat.max_le.2 ⟨Nat.max_le.2 ⟨by omega, key hz (by omega)⟩, by omega⟩
              · simp at h
            · simp at h
          · split at h
            · rename_i e he
              split at h
              · rename_i hob
                simp only [Option.some.injEq] at h
                subst h
                refine ⟨by simp [mx, mxL], Nat.le_trans (mxE_upE _ _ _ _) ?_⟩
                simp only at hp
                obtain ⟨h1, h2⟩ := mem_mxE (findE_ent he).1
                rw [hob] at h2
                simp only [mxO] at h2 ⊢
                have h3 := hp.1
                exact Nat.max_le.2 ⟨Nat.max_le.2 ⟨by omega, key hz (by omega)⟩, by omega⟩
              · simp at h
            · simp at h
          · simp at h
        · simp at h
      · simp at h
end

/-! the lexical run -/

def isBoxE (e : Ent) : Bool := match e.obj with | .box _ => true | _ => false

/-- the own objects that an operation may look at: all; boxes alone (it is free of appends); none (it is free of stores) -/
def ownM (l1 l2 : List Nat) (k : Nat) (own : List Ent) : List Ent := if l2.contains k then [] else if l1.contains k then own.filter isBoxE else own

def isApp (o : Oper) : Bool := match o.op with
  | .call c => match c.callee with | .builtin .append => true | _ => false
  | _ => false

/-- an address of an element; a store -/
def isIx (o : Oper) : Bool := match o.op with | .indexAddr _ _ _ => true | _ => false
def isSto (o : Oper) : Bool := match o.op with | .store _ _ _ => true | _ => false

/-- an append's new row stands in no box's place -/
def appOK (own : List Ent) (o : Oper) : Bool := !isApp o || (match o.dst with | some i => (match findE own i with | some e => !isBoxE e | none => true) | none => true)

/-- the same, under a guard that holds -/
def effSel (K : ContE) : ContE := ⟨fun d own' => K.f (.sel true d) own'⟩
theorem effSel_f (K : ContE) (d : DVal) (own' : List Ent) : (effSel K).f d own' = K.f (.sel true d) own' := id rfl
def effG (P : Program) (c : Bool) (o : Oper) (ed : Operand → DVal) (own : List Ent) (K : ContE) : Prop := match c with
  | true => effX P o ed own (effSel K)
  | false => K.f (.sel false .any) own

section
variable (P : Program) (nt : Nat) (ow l1 l2 : List Nat)

def dOpsX (ops : Array Oper) : List Oper → Nat → Cont → DS → Prop
  | [], _, K, s => K.f s
  | o :: rest, k, K, s => match o.guard with
    | none => if isEff ow o then dstOK nt o.dst = true ∧ appOK s.own o = true ∧ effX P o (ev s.slots) s.own ⟨fun d own' => dOpsX ops rest (k + 1) K ⟨putS s.slots o.dst d, own'⟩⟩
        else dOpD P nt o ⟨s.slots, ownM l1 l2 k s.own⟩ ⟨fun s' => dOpsX ops rest (k + 1) K ⟨s'.slots, s.own⟩⟩
    | some (j, want) => gOK (gSlot ops s j) = true ∧ if isEff ow o then dstOK nt o.dst = true ∧ appOK s.own o = true ∧ okOp (gB (gSlot ops s j) want) (ev s.slots) o.op ∧ effG P (gB (gSlot ops s j) want) o (stripE s.slots) s.own ⟨fun d own' => dOpsX ops rest (k + 1) K ⟨putS s.slots o.dst d, own'⟩⟩
        else dOpG P nt (gB (gSlot ops s j) want) o ⟨s.slots, ownM l1 l2 k s.own⟩ ⟨fun s' => dOpsX ops rest (k + 1) K ⟨s'.slots, s.own⟩⟩
/-- the rest of a region -/
def dOpsC (ops : Array Oper) (rest : List Oper) (k : Nat) (own : List Ent) (K : Cont) : Cont := ⟨fun s' => dOpsX P nt ow l1 l2 ops rest k K ⟨s'.slots, own⟩⟩
theorem dOpsC_f (ops : Array Oper) (rest : List Oper) (k : Nat) (own : List Ent) (K : Cont) (s' : DS) : (dOpsC P nt ow l1 l2 ops rest k own K).f s' = dOpsX P nt ow l1 l2 ops rest k K ⟨s'.slots, own⟩ := id rfl
def dOpsE (ops : Array Oper) (rest : List Oper) (k : Nat) (dst : Option Nat) (sl : List (Nat × DVal)) (K : Cont) : ContE := ⟨fun d own' => dOpsX P nt ow l1 l2 ops rest (k + 1) K ⟨putS sl dst d, own'⟩⟩
theorem dOpsE_f (ops : Array Oper) (rest : List Oper) (k : Nat) (dst : Option Nat) (sl : List (Nat × DVal)) (K : Cont) (d : DVal) (own' : List Ent) : (dOpsE P nt ow l1 l2 ops rest k dst sl K).f d own' = dOpsX P nt ow l1 l2 ops rest (k + 1) K ⟨putS sl dst d, own'⟩ := id rfl
theorem dOpsX_nil (ops : Array Oper) (k : Nat) (K : Cont) (s : DS) : dOpsX P nt ow l1 l2 ops [] k K s = K.f s := id rfl
theorem dOpsX_cons (ops : Array Oper) (o : Oper) (rest : List Oper) (k : Nat) (K : Cont) (s : DS) : dOpsX P nt ow l1 l2 ops (o :: rest) k K s = match o.guard with
    | none => if isEff ow o then dstOK nt o.dst = true ∧ appOK s.own o = true ∧ effX P o (ev s.slots) s.own (dOpsE P nt ow l1 l2 ops rest k o.dst s.slots K)
        else dOpD P nt o ⟨s.slots, ownM l1 l2 k s.own⟩ (dOpsC P nt ow l1 l2 ops rest (k + 1) s.own K)
    | some (j, want) => gOK (gSlot ops s j) = true ∧ if isEff ow o then dstOK nt o.dst = true ∧ appOK s.own o = true ∧ okOp (gB (gSlot ops s j) want) (ev s.slots) o.op ∧ effG P (gB (gSlot ops s j) want) o (stripE s.slots) s.own (dOpsE P nt ow l1 l2 ops rest k o.dst s.slots K)
        else dOpG P nt (gB (gSlot ops s j) want) o ⟨s.slots, ownM l1 l2 k s.own⟩ (dOpsC P nt ow l1 l2 ops rest (k + 1) s.own K) := id rfl

/-- an effect, its guard minded -/
def EffOK (ops : Array Oper) (o : Oper) (s : DS) (d : DVal) (own' : List Ent) (r : Nat) : Prop := match o.guard with
  | none => EOut P o (ev s.slots) s.own r d own'
  | some (j, want) => gOK (gSlot ops s j) = true ∧ okOp (gB (gSlot ops s j) want) (ev s.slots) o.op ∧
      ((gB (gSlot ops s j) want = true ∧ ∃ d0, d = .sel true d0 ∧ EOut P o (stripE s.slots) s.own r d0 own') ∨ (gB (gSlot ops s j) want = false ∧ d = .sel false .any ∧ own' = s.own))

def StepOK (ops : Array Oper) (k : Nat) (o : Oper) (s : DS) (d : DVal) (own' : List Ent) (r : Nat) : Prop :=
  (isEff ow o = true ∧ dstOK nt o.dst = true ∧ appOK s.own o = true ∧ EffOK P ops o s d own' r) ∨
    (isEff ow o = false ∧ own' = s.own ∧ OpOK P nt ops o ⟨s.slots, ownM l1 l2 k s.own⟩ d)

def effs (l : List Oper) : Nat := l.countP (isEff ow)

def drawOKE (ops : Array Oper) : Bool :=
  let m := masks ops.toList []
  let zs := ops.toList.zipIdx
  drawOK ops && zs.all fun p => !isEff ow p.1 || zs.all fun q => p.2 == q.2 || (decide (p.2 < q.2) && (m.getD q.2 0).testBit p.2) || (decide (q.2 < p.2) && (m.getD p.2 0).testBit q.2) ||
    (!isEff ow q.1 && (l2.contains q.2 || (l1.contains q.2 && isApp p.1) || (!l1.contains q.2 && isIx q.1 && isSto p.1)))
end

section
variable {P : Program} {nt : Nat} {ow l1 l2 : List Nat}

theorem dOpsX_run {ops : Array Oper} {K : Cont} (n0 : Nat) : ∀ (rest : List Oper) (k c : Nat) (s : DS), dOpsX P nt ow l1 l2 ops rest k K s →
    ∃ (ds : List DVal) (owns : Nat → List Ent), ds.length = rest.length ∧ owns 0 = s.own ∧ K.f ⟨lexS s.slots (rest.zip ds), owns rest.length⟩ ∧
      ∀ (j : Nat) (o : Oper), rest[j]? = some o → ∃ d, ds[j]? = some d ∧ StepOK P nt ow l1 l2 ops (k + j) o ⟨lexS s.slots ((rest.zip ds).take j), owns j⟩ d (owns (j + 1)) (n0 + c + effs ow (rest.take j))
  | [], k, c, s, h => ⟨[], fun _ => s.own, rfl, rfl, by simpa [dOpsX, lexS] using h, by simp⟩
  | o :: rest, k, c, s, h => by
    have step : ∀ d own', StepOK P nt ow l1 l2 ops k o s d own' (n0 + c) → dOpsX P nt ow l1 l2 ops rest (k + 1) K ⟨putS s.slots o.dst d, own'⟩ → ∃ (ds : List DVal) (owns : Nat → List Ent), ds.length = (o :: rest).length ∧ owns 0 = s.own ∧ K.f ⟨lexS s.slots ((o :: rest).zip ds), owns (o :: rest).length⟩ ∧
        ∀ (j : Nat) (o' : Oper), (o :: rest)[j]? = some o' → ∃ d, ds[j]? = some d ∧ StepOK P nt ow l1 l2 ops (k + j) o' ⟨lexS s.slots (((o :: rest).zip ds).take j), owns j⟩ d (owns (j + 1)) (n0 + c + effs ow ((o :: rest).take j)) := by
      intro d own' hok hr
      obtain ⟨ds, owns, h1, h0, h2, h3⟩ := dOpsX_run n0 rest (k + 1) (c + effs ow [o]) _ hr
      refine ⟨d :: ds, fun j => match j with | 0 => s.own | j + 1 => owns j, by simp [h1], rfl, by simpa [lexS] using h2, ?_⟩
      intro j o' hj
      cases j with
      | zero => simp only [List.getElem?_cons_zero, Option.some.injEq] at hj; subst hj; exact ⟨d, by simp, by simpa [lexS, effs, h0] using hok⟩
      | succ j =>
        obtain ⟨d', h4, h5⟩ := h3 j o' (by simpa using hj)
        refine ⟨d', by simpa using h4, ?_⟩
        have e1 : n0 + (c + effs ow [o]) + effs ow (rest.take j) = n0 + c + effs ow ((o :: rest).take (j + 1)) := by
          simp only [List.take_succ_cons, effs, List.countP_cons, List.countP_nil]; omega
        rw [e1, show k + 1 + j = k + (j + 1) by omega] at h5
        simpa [lexS] using h5
    simp only [dOpsX] at h
    split at h
    · rename_i hg
      split at h
      · rename_i he
        obtain ⟨hd, ha, h⟩ := h
        obtain ⟨d, own', h1, h2⟩ := effX_out h (n0 + c)
        exact step d own' (.inl ⟨he, hd, ha, by unfold EffOK; rw [hg]; exact h1⟩) h2
      · rename_i he
        have he : isEff ow o = false := by simpa using he
        obtain ⟨hd, h⟩ := h
        split at h
        · rename_i c hop
          split at h
          · rename_i g args hc
            obtain ⟨d, h1, h2⟩ := callP_out h
            exact step d _ (.inr ⟨he, rfl, hd, by rw [hg]; exact .inl ⟨c, g, args, hop, hc, h1⟩⟩) h2
          · exact step _ _ (.inr ⟨he, rfl, hd, by rw [hg]; exact .inr ⟨h.1, rfl⟩⟩) h.2
        · exact step _ _ (.inr ⟨he, rfl, hd, by rw [hg]; exact .inr ⟨h.1, rfl⟩⟩) h.2
    · rename_i j want hg
      obtain ⟨hgo, h⟩ := h
      split at h
      · rename_i he
        obtain ⟨hd, ha, hok, h⟩ := h
        cases hb : gB (gSlot ops s j) want with
        | true =>
          rw [hb] at h
          obtain ⟨d, own', h1, h2⟩ := effX_out (K := effSel _) h (n0 + c)
          exact step (.sel true d) own' (.inl ⟨he, hd, ha, by unfold EffOK; rw [hg]; exact ⟨hgo, hok, .inl ⟨hb, d, rfl, h1⟩⟩⟩) h2
        | false =>
          rw [hb] at h
          exact step (.sel false .any) s.own (.inl ⟨he, hd, ha, by unfold EffOK; rw [hg]; exact ⟨hgo, hok, .inr ⟨hb, rfl, rfl⟩⟩⟩) h
      rename_i he
      have he : isEff ow o = false := by simpa using he
      obtain ⟨hd, hok, h⟩ := h
      have mk : ∀ d, (gB (gSlot ops s j) want = true → OpOK1 P o (ownM l1 l2 k s.own) (stripE s.slots) d) → StepOK P nt ow l1 l2 ops k o s (.sel (gB (gSlot ops s j) want) d) s.own (n0 + c) := by
        intro d h1
        refine .inr ⟨he, rfl, hd, ?_⟩
        rw [hg]
        exact ⟨hgo, hok, d, rfl, h1⟩
      split at h
      · rename_i c hop
        split at h
        · rename_i g args hc
          obtain ⟨d, h1, h2⟩ := callG_out h
          exact step _ _ (mk d fun hq => .inl ⟨c, g, args, hop, hc, h1 hq⟩) h2
        · exact step _ _ (mk _ fun hq => .inr ⟨h.1 hq, rfl⟩) h.2
      · exact step _ _ (mk _ fun hq => .inr ⟨h.1 hq, rfl⟩) h.2
end

theorem mxS_putS (l : List (Nat × DVal)) (o : Option Nat) (d : DVal) : mxS (putS l o d) ≤ max (mx d) (mxS l) := by
  cases o <;> simp only [putS, mxS] <;> omega

theorem mxS_setS {l : List (Nat × DVal)} {S : Nat → Bool} {n : Nat} (hl : mxS l ≤ n) : ∀ (zs : List (Oper × DVal)) (i : Nat), (∀ (k : Nat) (z : Oper × DVal), zs[k]? = some z → S (i + k) = true → mx z.2 ≤ n) → mxS (setS l S i zs) ≤ n
  | [], _, _ => hl
  | (o, d) :: r, i, h => by
    have ih := mxS_setS (S := S) hl r (i + 1) (fun k z hz hS => h (k + 1) z (by simpa using hz) (by rwa [show i + 1 + k = i + (k + 1) by omega] at hS))
    simp only [setS]
    split
    · rename_i hS
      refine Nat.le_trans (mxS_putS _ _ _) ?_
      have := h 0 (o, d) (by simp) (by simpa using hS)
      simp only at this
      omega
    · exact ih

end Go.Dm
