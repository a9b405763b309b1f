/- The data machine, second make, part L: regions that draw their order, with operations that change own objects: the text's order serves for all. -/
import Derived.Test.YtihkcegelghcpaaEnK
set_option linter.unusedSimpArgs false
set_option linter.unusedVariables false
namespace Go.Dm

section
variable {P : Program} {o : Oper} {l l' : List (Nat × DVal)} {own : List Ent} {r n : Nat}

theorem eRes_congr (h : ∀ x ∈ o.op.operands, ev l x = ev l' x) : eRes P o l own r = eRes P o l' own r := by
  unfold eRes
  obtain ⟨dst, op, type, pos, after, guard⟩ := o
  simp only at h ⊢
  cases op <;> simp only [Op.operands] at h <;> simp only
  case box t x => rw [h x (by simp)]
  case store t a x => rw [h a (by simp), h x (by simp)]
  case buildSlice t n ps =>
    have hc := (n_congr0 (P := P) (own := own) (e := ev l) (e' := ev l') (.buildSlice t n ps) h).1
    have e1 : (ps.toList.map fun p => cellsD (ev l p.2)) = ps.toList.map fun p => cellsD (ev l' p.2) := List.map_congr_left fun p hm => by rw [h p.2 (by simpa using ⟨p.1, by simpa using hm⟩)]
    rw [propext hc, e1]
  case call c =>
    obtain ⟨cal, args, ts⟩ := c
    cases cal with
    | builtin b =>
      have : args.toList.map (ev l) = args.toList.map (ev l') := List.map_congr_left fun x hx => h x (by simp [Call.operands]; simpa using hx)
      cases b <;> simp only [this]
    | value f => rfl
    | invoke a b => rfl

theorem mxE_upE (own : List Ent) (id r : Nat) (obj : DObj) : mxE (upE own id r obj) ≤ max (max (r + 1) (mxO obj)) (mxE own) := by
  have : mxE (delE own id) ≤ mxE own := by
    induction own with
    | nil => simp [delE]
    | cons e t ih =>
      simp only [delE]
      split
      · simp only [mxE]; omega
      · simp only [mxE]; omega
  simp only [upE, mxE]
  omega

theorem tZero_one {z : List DVal} {t : TypeId} (h : tZero P t = some z) : mxL z = 0 := tZero_mx h

theorem eRes_mx {x : ERes} (h : eRes P o l own r = some x) (hp : x.pre) (ho : mxE own ≤ n) (hl : mxS l ≤ n) (hr : n ≤ r) : mx x.d ≤ r + 1 ∧ mxE x.own ≤ r + 1 := by
  have hev : ∀ y, mx (ev l y) ≤ n := fun y => Nat.le_trans (ev_mx l y) hl
  obtain ⟨dst, op, type, pos, after, guard⟩ := o
  unfold eRes at h
  simp only at h
  cases op <;> simp only [reduceCtorEq] at h
  case box t y =>
    split at h
    · rename_i i
      simp only [Option.some.injEq] at h
      subst h
      refine ⟨by simp [mx], Nat.le_trans (mxE_upE _ _ _ _) ?_⟩
      have := hev y
      simp only [mxO, mx_cellsD]
      omega
    · simp at h
  case buildSlice t len ps =>
    split at h
    · simp only [Option.some.injEq] at h
      subst h
      refine ⟨by simp [mx], Nat.le_trans (mxE_upE _ _ _ _) ?_⟩
      have : mxR (ps.toList.map fun p => cellsD (ev l p.2)) ≤ n := mxR_le fun cs hm => by
        obtain ⟨p, _, rfl⟩ := List.mem_map.1 hm
        rw [mx_cellsD]
        exact hev p.2
      simp only [mxO]
      omega
    · simp at h
  case alloc t =>
    split at h
    · rename_i i z hi hz
      simp only [Option.some.injEq] at h
      subst h
      refine ⟨by simp [mx], Nat.le_trans (mxE_upE _ _ _ _) ?_⟩
      simp only [mxO, tZero_mx hz]
      omega
    · simp at h
  case store t ad y =>
    split at h
    · rename_i id r' off had
      split at h
      · rename_i e he
        split at h
        · rename_i cs hob
          simp only [Option.some.injEq] at h
          subst h
          refine ⟨by simp [mx], Nat.le_trans (mxE_upE _ _ _ _) ?_⟩
          simp only at hp
          obtain ⟨h1, h2⟩ := mem_mxE (findE_ent he).1
          rw [hob] at h2
          simp only [mxO] at h2 ⊢
          have h3 := splice_mx cs off (cellsD (ev l y))
          have h4 := hev y
          rw [mx_cellsD] at h3
          have := hp.1
          omega
        · simp at h
      · simp at h
    · simp at h
  case call c =>
    obtain ⟨cal, args, ats⟩ := c
    cases cal <;> simp only [reduceCtorEq] at h
    rename_i b
    cases b <;> simp only [reduceCtorEq] at h
    unfold eAppend at h
    split at h
    · rename_i da db t t' hargs hts
      split at h
      · rename_i i k bs et _ _
        split at h
        · rename_i id es k2 es2 hdest hsrc
          simp only [Option.some.injEq] at h
          subst h
          have hda : mx da ≤ n := by
            have : da ∈ args.toList.map (ev l) := by rw [hargs]; simp
            obtain ⟨y, _, rfl⟩ := List.mem_map.1 this
            exact hev y
          have hdb : mx db ≤ n := by
            have : db ∈ args.toList.map (ev l) := by rw [hargs]; simp
            obtain ⟨y, _, rfl⟩ := List.mem_map.1 this
            exact hev y
          refine ⟨by simp [mx], Nat.le_trans (mxE_upE _ _ _ _) ?_⟩
          simp only [mxO, mxR_append]
          have h1 : mxR es ≤ n := by
            unfold destOf at hdest
            split at hdest
            · simp only [Option.some.injEq, Prod.mk.injEq] at hdest
              obtain ⟨_, rfl⟩ := hdest
              simp [mxR]
            · split at hdest
              · rename_i e0 he0
                split at hdest
                · split at hdest
                  · rename_i hob
                    split at hdest
                    · simp only [Option.some.injEq, Prod.mk.injEq] at hdest
                      obtain ⟨_, rfl⟩ := hdest
                      have := (mem_mxE (findE_ent he0).1).2
                      rw [hob] at this
                      simp only [mxO] at this
                      omega
                    · simp at hdest
                  · simp at hdest
                · simp at hdest
              · simp at hdest
            · simp at hdest
          have h2 : mxR es2 ≤ n := by
            unfold rowsN at hsrc
            split at hsrc
            · simp only [Option.some.injEq, Prod.mk.injEq] at hsrc
              obtain ⟨_, rfl⟩ := hsrc
              simp [mxR]
            · simp only [Option.some.injEq, Prod.mk.injEq] at hsrc
              obtain ⟨_, rfl⟩ := hsrc
              simp [mxR]
            · rw [Option.map_eq_some_iff] at hsrc
              obtain ⟨⟨k', b', es'⟩, h1, h2⟩ := hsrc
              simp only [Prod.mk.injEq] at h2
              obtain ⟨_, rfl⟩ := h2
              have := rowsOf_mx h1
              omega
          omega
        · simp at h
      · simp at h
    · simp at h
end

/-! the lexical run -/

def isBoxE (e : Ent) : Bool := match e.obj with | .box _ => true | _ => false

/-- the own objects that an operation may look at: all; boxes alone (it is free of appends); none (it is free of stores) -/
def ownM (l1 l2 : List Nat) (k : Nat) (own : List Ent) : List Ent := if l2.contains k then [] else if l1.contains k then own.filter isBoxE else own

def isApp (o : Oper) : Bool := match o.op with
  | .call c => match c.callee with | .builtin .append => true | _ => false
  | _ => false

/-- an append's new row stands in no box's place -/
def appOK (own : List Ent) (o : Oper) : Bool := !isApp o || (match o.dst with | some i => (match findE own i with | some e => !isBoxE e | none => true) | none => true)

section
variable (P : Program) (nt : Nat) (ow l1 l2 : List Nat)

def dOpsX (ops : Array Oper) : List Oper → Nat → Cont → DS → Prop
  | [], _, K, s => K.f s
  | o :: rest, k, K, s => match o.guard with
    | none => if isEff ow o then dstOK nt o.dst = true ∧ appOK s.own o = true ∧ ∀ r, match eRes P o s.slots s.own r with
          | some x => x.pre ∧ dOpsX ops rest (k + 1) K ⟨putS s.slots o.dst x.d, x.own⟩
          | none => False
        else dOpD P nt o ⟨s.slots, ownM l1 l2 k s.own⟩ ⟨fun s' => dOpsX ops rest (k + 1) K ⟨s'.slots, s.own⟩⟩
    | some (j, want) => isEff ow o = false ∧ gOK (gSlot ops s j) = true ∧ dOpG P nt (gB (gSlot ops s j) want) o ⟨s.slots, ownM l1 l2 k s.own⟩ ⟨fun s' => dOpsX ops rest (k + 1) K ⟨s'.slots, s.own⟩⟩
/-- the rest of a region -/
def dOpsC (ops : Array Oper) (rest : List Oper) (k : Nat) (own : List Ent) (K : Cont) : Cont := ⟨fun s' => dOpsX P nt ow l1 l2 ops rest k K ⟨s'.slots, own⟩⟩
theorem dOpsC_f (ops : Array Oper) (rest : List Oper) (k : Nat) (own : List Ent) (K : Cont) (s' : DS) : (dOpsC P nt ow l1 l2 ops rest k own K).f s' = dOpsX P nt ow l1 l2 ops rest k K ⟨s'.slots, own⟩ := rfl
theorem dOpsX_nil (ops : Array Oper) (k : Nat) (K : Cont) (s : DS) : dOpsX P nt ow l1 l2 ops [] k K s = K.f s := rfl
theorem dOpsX_cons (ops : Array Oper) (o : Oper) (rest : List Oper) (k : Nat) (K : Cont) (s : DS) : dOpsX P nt ow l1 l2 ops (o :: rest) k K s = match o.guard with
    | none => if isEff ow o then dstOK nt o.dst = true ∧ appOK s.own o = true ∧ ∀ r, match eRes P o s.slots s.own r with
          | some x => x.pre ∧ dOpsX P nt ow l1 l2 ops rest (k + 1) K ⟨putS s.slots o.dst x.d, x.own⟩
          | none => False
        else dOpD P nt o ⟨s.slots, ownM l1 l2 k s.own⟩ (dOpsC P nt ow l1 l2 ops rest (k + 1) s.own K)
    | some (j, want) => isEff ow o = false ∧ gOK (gSlot ops s j) = true ∧ dOpG P nt (gB (gSlot ops s j) want) o ⟨s.slots, ownM l1 l2 k s.own⟩ (dOpsC P nt ow l1 l2 ops rest (k + 1) s.own K) := rfl

def StepOK (ops : Array Oper) (k : Nat) (o : Oper) (s : DS) (d : DVal) (own' : List Ent) (r : Nat) : Prop :=
  (isEff ow o = true ∧ o.guard = none ∧ dstOK nt o.dst = true ∧ appOK s.own o = true ∧ ∃ x, eRes P o s.slots s.own r = some x ∧ x.pre ∧ d = x.d ∧ own' = x.own) ∨
    (isEff ow o = false ∧ own' = s.own ∧ OpOK P nt ops o ⟨s.slots, ownM l1 l2 k s.own⟩ d)

def effs (l : List Oper) : Nat := l.countP (isEff ow)

def drawOKE (ops : Array Oper) : Bool :=
  let m := masks ops.toList []
  let zs := ops.toList.zipIdx
  drawOK ops && zs.all fun p => !isEff ow p.1 || zs.all fun q => p.2 == q.2 || (decide (p.2 < q.2) && (m.getD q.2 0).testBit p.2) || (decide (q.2 < p.2) && (m.getD p.2 0).testBit q.2) ||
    (!isEff ow q.1 && (l2.contains q.2 || (l1.contains q.2 && isApp p.1)))
end

section
variable {P : Program} {nt : Nat} {ow l1 l2 : List Nat}

theorem dOpsX_run {ops : Array Oper} {K : Cont} (n0 : Nat) : ∀ (rest : List Oper) (k c : Nat) (s : DS), dOpsX P nt ow l1 l2 ops rest k K s →
    ∃ (ds : List DVal) (owns : Nat → List Ent), ds.length = rest.length ∧ owns 0 = s.own ∧ K.f ⟨lexS s.slots (rest.zip ds), owns rest.length⟩ ∧
      ∀ (j : Nat) (o : Oper), rest[j]? = some o → ∃ d, ds[j]? = some d ∧ StepOK P nt ow l1 l2 ops (k + j) o ⟨lexS s.slots ((rest.zip ds).take j), owns j⟩ d (owns (j + 1)) (n0 + c + effs ow (rest.take j))
  | [], k, c, s, h => ⟨[], fun _ => s.own, rfl, rfl, by simpa [dOpsX, lexS] using h, by simp⟩
  | o :: rest, k, c, s, h => by
    have step : ∀ d own', StepOK P nt ow l1 l2 ops k o s d own' (n0 + c) → dOpsX P nt ow l1 l2 ops rest (k + 1) K ⟨putS s.slots o.dst d, own'⟩ → ∃ (ds : List DVal) (owns : Nat → List Ent), ds.length = (o :: rest).length ∧ owns 0 = s.own ∧ K.f ⟨lexS s.slots ((o :: rest).zip ds), owns (o :: rest).length⟩ ∧
        ∀ (j : Nat) (o' : Oper), (o :: rest)[j]? = some o' → ∃ d, ds[j]? = some d ∧ StepOK P nt ow l1 l2 ops (k + j) o' ⟨lexS s.slots (((o :: rest).zip ds).take j), owns j⟩ d (owns (j + 1)) (n0 + c + effs ow ((o :: rest).take j)) := by
      intro d own' hok hr
      obtain ⟨ds, owns, h1, h0, h2, h3⟩ := dOpsX_run n0 rest (k + 1) (c + effs ow [o]) _ hr
      refine ⟨d :: ds, fun j => match j with | 0 => s.own | j + 1 => owns j, by simp [h1], rfl, by simpa [lexS] using h2, ?_⟩
      intro j o' hj
      cases j with
      | zero => simp only [List.getElem?_cons_zero, Option.some.injEq] at hj; subst hj; exact ⟨d, by simp, by simpa [lexS, effs, h0] using hok⟩
      | succ j =>
        obtain ⟨d', h4, h5⟩ := h3 j o' (by simpa using hj)
        refine ⟨d', by simpa using h4, ?_⟩
        have e1 : n0 + (c + effs ow [o]) + effs ow (rest.take j) = n0 + c + effs ow ((o :: rest).take (j + 1)) := by
          simp only [List.take_succ_cons, effs, List.countP_cons, List.countP_nil]; omega
        rw [e1, show k + 1 + j = k + (j + 1) by omega] at h5
        simpa [lexS] using h5
    simp only [dOpsX] at h
    split at h
    · rename_i hg
      split at h
      · rename_i he
        obtain ⟨hd, ha, h⟩ := h
        have h1 := h (n0 + c)
        split at h1
        · rename_i x hx
          exact step x.d x.own (.inl ⟨he, hg, hd, ha, x, hx, h1.1, rfl, rfl⟩) h1.2
        · exact h1.elim
      · rename_i he
        have he : isEff ow o = false := by simpa using he
        obtain ⟨hd, h⟩ := h
        split at h
        · rename_i c hop
          split at h
          · rename_i g args hc
            obtain ⟨d, h1, h2⟩ := callP_out h
            exact step d _ (.inr ⟨he, rfl, hd, by rw [hg]; exact .inl ⟨c, g, args, hop, hc, h1⟩⟩) h2
          · exact step _ _ (.inr ⟨he, rfl, hd, by rw [hg]; exact .inr ⟨h.1, rfl⟩⟩) h.2
        · exact step _ _ (.inr ⟨he, rfl, hd, by rw [hg]; exact .inr ⟨h.1, rfl⟩⟩) h.2
    · rename_i j want hg
      obtain ⟨he, hgo, hd, hok, h⟩ := h
      have mk : ∀ d, (gB (gSlot ops s j) want = true → OpOK1 P o (ownM l1 l2 k s.own) (stripE s.slots) d) → StepOK P nt ow l1 l2 ops k o s (.sel (gB (gSlot ops s j) want) d) s.own (n0 + c) := by
        intro d h1
        refine .inr ⟨he, rfl, hd, ?_⟩
        rw [hg]
        exact ⟨hgo, hok, d, rfl, h1⟩
      split at h
      · rename_i c hop
        split at h
        · rename_i g args hc
          obtain ⟨d, h1, h2⟩ := callG_out h
          exact step _ _ (mk d fun hq => .inl ⟨c, g, args, hop, hc, h1 hq⟩) h2
        · exact step _ _ (mk _ fun hq => .inr ⟨h.1 hq, rfl⟩) h.2
      · exact step _ _ (mk _ fun hq => .inr ⟨h.1 hq, rfl⟩) h.2
end

theorem mxS_putS (l : List (Nat × DVal)) (o : Option Nat) (d : DVal) : mxS (putS l o d) ≤ max (mx d) (mxS l) := by
  cases o <;> simp only [putS, mxS] <;> omega

theorem mxS_setS {l : List (Nat × DVal)} {S : Nat → Bool} {n : Nat} (hl : mxS l ≤ n) : ∀ (zs : List (Oper × DVal)) (i : Nat), (∀ (k : Nat) (z : Oper × DVal), zs[k]? = some z → S (i + k) = true → mx z.2 ≤ n) → mxS (setS l S i zs) ≤ n
  | [], _, _ => hl
  | (o, d) :: r, i, h => by
    have ih := mxS_setS (S := S) hl r (i + 1) (fun k z hz hS => h (k + 1) z (by simpa using hz) (by rwa [show i + 1 + k = i + (k + 1) by omega] at hS))
    simp only [setS]
    split
    · rename_i hS
      refine Nat.le_trans (mxS_putS _ _ _) ?_
      have := h 0 (o, d) (by simp) (by simpa using hS)
      simp only at this
      omega
    · exact ih

end Go.Dm
