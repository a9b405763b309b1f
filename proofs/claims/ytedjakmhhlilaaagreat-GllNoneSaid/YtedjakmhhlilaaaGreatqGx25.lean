/- Parts of a proof, laid together: EvK7, EvG, EvH, EnS. -/
import Derived.Test.YtedjakmhhlilaaaGreatqGx14
import Derived.Test.YtedjakmhhlilaaaGreatqGx24
set_option linter.unusedSimpArgs false
set_option linter.unusedVariables false
set_option linter.unusedSectionVars false
section
namespace Go.Dm
variable [DMode]
abbrev OpS := Option Nat × Stg (CallK → KV → Option (DVal × OT × Nat))
abbrev RunT := Option (Nat × Nat) → KV → Option (Exit × KV)
section
variable (P : Program)
noncomputable def preS (nt : Nat) (ops : Array Oper) : List Oper → List OpS
 | [] => []
 | o :: rest => (o.dst, opS P nt ops o) :: preS nt ops rest
noncomputable def runS (call : CallK) : List OpS → KV → Option (List (DVal × KV) × KV)
 | [], s => some ([], s)
 | (dst, ⟨f⟩) :: rest, s => match f call s with
  | some (d, ow, r) => (match runS call rest ⟨sput s.sl dst d, ow, r⟩ with
   | some (tr, s') => some ((d, s) :: tr, s')
   | none => none)
  | none => none
noncomputable def sputS (dst : Option Nat) : Stg (DVal → Sl → Sl) := match dst with
 | none => ⟨fun _ T => T⟩
 | some i => Mp.putS 7 i
noncomputable def opsC (nt : Nat) (ops : Array Oper) (call : CallK) (l : List Oper) : Stg (KV → Option KV) :=
 List.rec (motive := fun _ => Stg (KV → Option KV)) ⟨fun s => some s⟩ (fun o _ ih =>
  Stg.rec (motive := fun _ => Stg (KV → Option KV)) (fun f => Stg.rec (motive := fun _ => Stg (KV → Option KV)) (fun p => Stg.rec (motive := fun _ => Stg (KV → Option KV)) (fun g =>
   ⟨fun s => Option.rec (motive := fun _ => Option KV) none (fun x => g ⟨p x.1 s.sl, x.2.1, x.2.2⟩) (f call s)⟩) ih) (sputS o.dst)) (opS P nt ops o)) l
noncomputable def seqC (f g : RunT) : RunT := fun ro s => Option.rec (motive := fun _ => Option (Exit × KV)) none (fun p => Exit.rec (motive := fun _ => Option (Exit × KV)) (g ro p.2) (fun id => some (.exit id, p.2)) (fun l => some (.goto l, p.2)) (some (.ret, p.2)) (fun c => some (.panic c, p.2)) (some (.outgrown, p.2)) p.1) (f ro s)
noncomputable def loopC (f : RunT) (N : Nat) : RunT := fun ro s => Nat.rec (motive := fun _ => KV → Option (Exit × KV)) (fun _ => none) (fun _ ih s => Option.rec (motive := fun _ => Option (Exit × KV)) none (fun p => Exit.rec (motive := fun _ => Option (Exit × KV)) (ih p.2) (fun id => some (.exit id, p.2)) (fun l => some (.goto l, p.2)) (some (.ret, p.2)) (fun c => some (.panic c, p.2)) (some (.outgrown, p.2)) p.1) (f ro s)) N s
noncomputable def blockC (id : Nat) (f : RunT) : RunT := fun ro s => Option.rec (motive := fun _ => Option (Exit × KV)) none (fun p => Exit.rec (motive := fun _ => Option (Exit × KV)) (some (.normal, p.2)) (fun j => Bool.rec (motive := fun _ => Option (Exit × KV)) (some (.exit j, p.2)) (some (.normal, p.2)) (Nat.beq j id)) (fun l => some (.goto l, p.2)) (some (.ret, p.2)) (fun c => some (.panic c, p.2)) (some (.outgrown, p.2)) p.1) (f ro s)
noncomputable def condC (x : Operand) (f g : RunT) : RunT := fun ro s => Option.rec (motive := fun _ => Option (Exit × KV)) none (fun b => Bool.rec (motive := fun _ => Option (Exit × KV)) (g ro s) (f ro s) b) (vB (evK s.sl x))
variable (N : Nat)
noncomputable def cmp (call : CallK) (nt : Nat) : Code → Stg RunT
 | .skip => ⟨fun _ s => some (.normal, s)⟩
 | .region _ ops draw => (match draw with
  | true => (match totB ops with
   | true => ⟨fun _ s => (match runS call (preS P nt ops ops.toList) s with
    | some (tr, s') => (match floatK P ops tr s' with
     | true => some (.normal, s')
     | false => none)
    | none => none)⟩
   | false => ⟨fun _ s => (match evFlK P nt call ops s with
    | some s' => some (.normal, s')
    | none => none)⟩)
  | false => (match opsC P nt ops call ops.toList with
   | ⟨f⟩ => ⟨fun _ s => Option.rec (motive := fun _ => Option (Exit × KV)) none (fun s' => some (.normal, s')) (f s)⟩))
 | .seq a b => (match cmp call nt a, cmp call nt b with
  | ⟨f⟩, ⟨g⟩ => ⟨seqC f g⟩)
 | .cond x a b => (match cmp call nt a, cmp call nt b with
  | ⟨f⟩, ⟨g⟩ => ⟨condC x f g⟩)
 | .block id b => (match cmp call nt b with
  | ⟨f⟩ => ⟨blockC id f⟩)
 | .loop b => (match cmp call nt b with
  | ⟨f⟩ => ⟨loopC f N⟩)
 | .scope b => (match cmp call nt b with
  | ⟨f⟩ => ⟨fun ro s => match f ro s with
   | some (.goto _, _) => none
   | x => x⟩)
 | .rangeFunc x ps assign body => ⟨fun ro s => rfK call ro nt x ps assign body s⟩
 | .exit id => ⟨fun _ s => some (.exit id, s)⟩
 | .ret => ⟨fun _ s => some (.ret, s)⟩
 | .label _ => ⟨fun _ s => some (.normal, s)⟩
 | _ => ⟨fun _ _ => none⟩
noncomputable def fnS (call : CallK) (g : FuncId) : Stg (List DVal → OT → Nat → Option (DVal × OT × Nat)) := match P.funcs[g]? with
 | none => ⟨fun _ _ _ => none⟩
 | some fn => (match fn.name == "runtime.NumGoroutine", fn.body with
  | false, some c => (match cmp P N call fn.ntmps c with
   | ⟨f⟩ => ⟨fun args T r => match Nat.ble args.length fn.ntmps with
    | true => (match f none ⟨argT args 0 (Mp.mt 7), T, r⟩ with
     | none => none
     | some (e, s) => match e with
      | .normal | .ret => (match resK P s.sl s.ow fn.results.toList with
       | some d => some (d, s.ow, s.r)
       | none => none)
      | _ => none)
    | false => none⟩)
  | _, _ => ⟨fun _ _ _ => none⟩)
variable (O : CallK)
noncomputable def callQ : Nat → CallK
 | 0 => fun _ _ _ _ => none
 | n + 1 => fun t args T r => match O t args T r with
  | some x => some x
  | none => match t with
   | .yl id v => yldK (fun ro nt c s => (cmp P N (callQ n) nt c).f ro s) id v args T r
   | .fn g => (fnS P N (callQ n) g).f args T r
end
section
variable {P : Program} {N : Nat}
theorem runS_eq (nt : Nat) (ops : Array Oper) (call : CallK) : ∀ (l : List Oper) (s : KV), runS call (preS P nt ops l) s = evOpsK P nt call ops l s
 | [], s => rfl
 | o :: rest, s => by
  simp only [preS, runS, evOpsK]
  have h := opS_eq (P := P) nt ops o call s
  rw [h]
  cases hx : opK P nt call ops o s with
  | none => rfl
  | some x =>
   obtain ⟨d, ow, r⟩ := x
   simp only
   rw [runS_eq nt ops call rest]
   rfl
theorem sputS_eq (dst : Option Nat) (d : DVal) (T : Sl) : (sputS dst).f d T = sput T dst d := by
 cases dst <;> rfl
theorem opsC_cons (nt : Nat) (ops : Array Oper) (call : CallK) (o : Oper) (rest : List Oper) (s : KV) : (opsC P nt ops call (o :: rest)).f s = match (opS P nt ops o).f call s with
  | some (d, ow, r) => (opsC P nt ops call rest).f ⟨sput s.sl o.dst d, ow, r⟩
  | none => none := by
 have h : opsC P nt ops call (o :: rest) = Stg.rec (motive := fun _ => Stg (KV → Option KV)) (fun f => Stg.rec (motive := fun _ => Stg (KV → Option KV)) (fun p => Stg.rec (motive := fun _ => Stg (KV → Option KV)) (fun g =>
   ⟨fun s => Option.rec (motive := fun _ => Option KV) none (fun x => g ⟨p x.1 s.sl, x.2.1, x.2.2⟩) (f call s)⟩) (opsC P nt ops call rest)) (sputS o.dst)) (opS P nt ops o) := rfl
 rw [h]
 have hp := sputS_eq o.dst
 generalize sputS o.dst = q at hp
 cases q with
 | mk p =>
  simp only at hp
  cases opS P nt ops o with
  | mk f =>
   cases opsC P nt ops call rest with
   | mk g =>
    simp only
    cases f call s with
    | none => rfl
    | some x => simp only [hp]
theorem opsC_eq (nt : Nat) (ops : Array Oper) (call : CallK) : ∀ (l : List Oper) (s : KV), (opsC P nt ops call l).f s = (evOpsK P nt call ops l s).map (·.2)
 | [], s => rfl
 | o :: rest, s => by
  rw [opsC_cons]
  simp only [evOpsK]
  have h := opS_eq (P := P) nt ops o call s
  rw [h]
  cases hx : opK P nt call ops o s with
  | none => rfl
  | some x =>
   obtain ⟨d, ow, r⟩ := x
   simp only
   rw [opsC_eq nt ops call rest]
   cases evOpsK P nt call ops rest ⟨sput s.sl o.dst d, ow, r⟩ <;> rfl
theorem cmp_eq (call : CallK) (nt : Nat) (c : Code) : ∀ (ro : Option (Nat × Nat)) (s : KV), (cmp P N call nt c).f ro s = evCL P N call c ro nt s := by
 induction c <;> intro ro s <;> try rfl
 case region id ops draw =>
  simp only [cmp, evCL]
  cases draw with
  | true =>
   cases ht : totB ops with
   | true =>
    simp only [Bool.not_true, Bool.and_false, Bool.false_eq_true, if_false, if_true]
    rw [runS_eq]
    cases hx : evOpsK P nt call ops ops.toList s with
    | none => rfl
    | some x =>
     obtain ⟨tr, s'⟩ := x
     simp only
     cases floatK P ops tr s' <;> rfl
   | false =>
    simp only [Bool.not_false, Bool.and_true, if_true]
    rfl
  | false =>
   simp only [Bool.false_and, Bool.false_eq_true, if_false]
   have h := opsC_eq (P := P) nt ops call ops.toList s
   generalize opsC P nt ops call ops.toList = q at h
   cases q with
   | mk f =>
    simp only at h ⊢
    rw [h]
    cases evOpsK P nt call ops ops.toList s <;> rfl
 case seq a b iha ihb =>
  simp only [cmp, evCL]
  generalize cmp P N call nt a = x at iha
  generalize cmp P N call nt b = y at ihb
  cases x with
  | mk f => cases y with
   | mk g =>
    simp only [seqC] at iha ihb ⊢
    rw [iha]
    cases hx : evCL P N call a ro nt s with
    | none => rfl
    | some p => obtain ⟨e, s'⟩ := p; cases e <;> simp [ihb]
 case cond x a b iha ihb =>
  simp only [cmp, evCL]
  generalize cmp P N call nt a = x' at iha
  generalize cmp P N call nt b = y at ihb
  cases x' with
  | mk f => cases y with
   | mk g =>
    simp only [condC] at iha ihb ⊢
    rw [iha, ihb]
    cases evK s.sl x <;> try rfl
    rename_i b
    cases b <;> rfl
 case block id b ih =>
  simp only [cmp, evCL]
  generalize cmp P N call nt b = x at ih
  cases x with
  | mk f =>
   simp only [blockC] at ih ⊢
   rw [ih]
   cases hx : evCL P N call b ro nt s with
   | none => rfl
   | some p =>
    obtain ⟨e, s'⟩ := p
    cases e <;> try rfl
    rename_i j
    simp only
    cases hj : Nat.beq j id with
    | true => rw [if_pos (Nat.eq_of_beq_eq_true hj)]
    | false => rw [if_neg (by intro e; subst e; simp at hj)]
 case loop b ih =>
  simp only [cmp, evCL]
  generalize cmp P N call nt b = x at ih
  cases x with
  | mk f =>
   simp only at ih ⊢
   have hb : ∀ (m : Nat) (s : KV), loopC f m ro s = evLoopK (evCL P N call b ro nt) m s := by
    intro m
    induction m with
    | zero => intro s; rfl
    | succ m ihm =>
     intro s
     simp only [evLoopK]
     rw [← ih]
     show (Option.rec (motive := fun _ => Option (Exit × KV)) none (fun p => Exit.rec (motive := fun _ => Option (Exit × KV)) (loopC f m ro p.2) _ _ _ _ _ p.1) (f ro s)) = _
     cases f ro s with
     | none => rfl
     | some p => obtain ⟨e, s'⟩ := p; cases e <;> simp [ihm]
   exact hb N s
 case scope b ih =>
  simp only [cmp, evCL]
  generalize cmp P N call nt b = x at ih
  cases x with
  | mk f =>
   simp only at ih ⊢
   rw [ih]
   cases evCL P N call b ro nt s with
   | none => rfl
   | some p => obtain ⟨e, s'⟩ := p; cases e <;> rfl
theorem fnS_eq (call : CallK) (O : CallK) (g : FuncId) (args : List DVal) (T : OT) (r : Nat) (hO : O (.fn g) args T r = none) : (fnS P N call g).f args T r = callK P O (fun ro nt c s => evCL P N call c ro nt s) (.fn g) args T r := by
 unfold fnS callK
 rw [hO]
 simp only
 cases P.funcs[g]? with
 | none => rfl
 | some fn =>
  simp only
  cases hn : (fn.name == "runtime.NumGoroutine") with
  | true => cases fn.body <;> simp
  | false =>
   cases hb : fn.body with
   | none => simp
   | some c =>
    have h := cmp_eq (P := P) (N := N) call fn.ntmps c
    simp only [Bool.false_or]
    generalize cmp P N call fn.ntmps c = x at h
    cases x with
    | mk f =>
     simp only at h ⊢
     rw [nble]
     by_cases hl : args.length ≤ fn.ntmps
     ·simp only [hl, decide_true, Bool.not_true, Bool.false_eq_true, if_false, h]
      rfl
     ·simp [hl]
theorem callQ_eq (O : CallK) : ∀ n, callQ P N O n = callN P O N n
 | 0 => rfl
 | n + 1 => by
  funext t args T r
  simp only [callQ, callN]
  rw [callQ_eq O n]
  cases hO : O t args T r with
  | some x => simp [callK, hO]
  | none =>
   cases t with
   | fn g => simp only; exact fnS_eq _ O g args T r hO
   | yl id v =>
    simp only [callK, hO]
    congr 1
    funext ro nt c s
    exact cmp_eq _ _ _ _ _
theorem callQ_ok (hm : P.follows .mixedOrders = true) {O : CallK} (hO : CallOKK P O) (n : Nat) : CallOKK P (callQ P N O n) := by
 rw [callQ_eq]
 exact callN_ok hm hO n
end
mutual
def useD (p : Nat → Bool) : DVal → Bool
 | .sel _ d => useD p d
 | .ref cs => useL p cs
 | .bx id _ _ => p id
 | .rx id _ _ _ _ => p id
 | .sl _ _ es => useR p es
 | .osl id _ => p id
 | .vw id _ _ _ _ _ => p id
 | .mp ks vs => useL p ks && useL p vs
 | .omp id _ => p id
 | .pk id _ => p id
 | .fn _ us cs => useL p us && useL p cs
 | .ifc _ d => useD p d
 | .agg cs => useL p cs
 | .tup cs => useL p cs
 | _ => true
def useL (p : Nat → Bool) : List DVal → Bool
 | [] => true
 | d :: ds => useD p d && useL p ds
def useR (p : Nat → Bool) : List (List DVal) → Bool
 | [] => true
 | cs :: es => useL p cs && useR p es
end
def useO (p : Nat → Bool) : DObj → Bool
 | .box cs => useL p cs
 | .row _ _ _ es => useR p es
 | .map ks vs => useL p ks && useL p vs
 | .mapD ks vs => useL p ks && useL p vs
 | .glob _ _ => true
 | _ => false
theorem useL_globD (p : Nat → Bool) (vs : List Nat) : useL p (globD vs) = true := by
 unfold globD
 induction vs with
 | nil => rfl
 | cons n vs ih => simp [useL, useD, ih]
structure WeakU (cur cur' : Cur) (M M' : List Nat) (h h' : Array Obj) (p : Nat → Bool) : Prop where
 c : ∀ id r l, p id = true → cur' id r = some l → cur id r = some l
 b : ∀ b o, b ∉ M → isD o = true → h[b]? = some o → h'[b]? = some o
 m : ∀ b o, b ∉ M → isD o = true → h[b]? = some o → b ∉ M'
section
variable {cur cur' : Cur} {M M' : List Nat} {h h' : Array Obj} {p : Nat → Bool}
mutual
theorem rd_use (W : WeakU cur cur' M M' h h' p) : ∀ (d : DVal) (v : Value), useD p d = true → rd cur M h d v → rd cur' M' h' d v
 | .any, _, _, _ => by simp [rd]
 | .undef, _, _, hr => by simpa [rd] using hr
 | .sel c d, v, hm, hr => by
  simp only [useD] at hm
  simp only [rd] at hr ⊢
  exact ⟨fun h => rd_use W d v hm (hr.1 h), hr.2⟩
 | .bool _, _, _, hr => by simpa [rd] using hr
 | .int _ _, _, _, hr => by simpa [rd] using hr
 | .str _, _, _, hr => by simpa [rd] using hr
 | .nilp, _, _, hr => by simpa [rd] using hr
 | .ref cs, v, hm, hr => by
  simp only [useD] at hm
  simp only [rd] at hr ⊢
  obtain ⟨b, off, arr, ty, fz, h1, h2, h3, h4⟩ := hr
  exact ⟨b, off, arr, ty, fz, h1, W.m b _ h2 rfl h3, W.b b _ h2 rfl h3, rdC_use W cs arr off hm h4⟩
 | .bx id r off, v, hm, hr => by
  simp only [useD] at hm
  simp only [rd] at hr ⊢
  exact fun l hl => hr l (W.c id r l hm hl)
 | .rx id r k i j, v, hm, hr => by
  simp only [useD] at hm
  simp only [rd] at hr ⊢
  exact fun l hl => hr l (W.c id r l hm hl)
 | .nilsl, _, _, hr => by simpa [rd] using hr
 | .esl, _, _, hr => by simpa [rd] using hr
 | .sl k bs es, v, hm, hr => by
  simp only [useD] at hm
  simp only [rd] at hr ⊢
  obtain ⟨a, cap, h1, h2, h2', h2'', h3⟩ := hr
  refine ⟨a, cap, h1, h2, h2', h2'', h3.imp id ?_⟩
  rintro ⟨b, off, arr, ty, fz, g1, g2, g3, g4⟩
  exact ⟨b, off, arr, ty, fz, g1, W.m b _ g2 rfl g3, W.b b _ g2 rfl g3, rdR_use W k es arr off hm g4⟩
 | .osl id r, v, hm, hr => by
  simp only [useD] at hm
  simp only [rd] at hr ⊢
  exact fun l hl => hr l (W.c id r l hm hl)
 | .vw id r k bs i n, v, hm, hr => by
  simp only [useD] at hm
  simp only [rd] at hr ⊢
  exact fun l hl => hr l (W.c id r l hm hl)
 | .nilmp, _, _, hr => by simpa [rd] using hr
 | .mp ks vs, v, hm, hr => by
  simp only [useD] at hm
  simp only [rd] at hr ⊢
  obtain ⟨b, es, clk, h1, h2, h3, h4, h5, h6⟩ := hr
  exact ⟨b, es, clk, h1, W.m b _ h2 rfl h3, W.b b _ h2 rfl h3, h4, rdV_use W ks _ (by simp only [Bool.and_eq_true] at hm; exact hm.1) h5, rdV_use W vs _ (by simp only [Bool.and_eq_true] at hm; exact hm.2) h6⟩
 | .omp id r, v, hm, hr => by
  simp only [useD] at hm
  simp only [rd] at hr ⊢
  exact fun l hl => hr l (W.c id r l hm hl)
 | .pk id r, v, hm, hr => by
  simp only [useD] at hm
  simp only [rd] at hr ⊢
  exact fun l hl => hr l (W.c id r l hm hl)
 | .nilfn, _, _, hr => by simpa [rd] using hr
 | .fn f us cs, v, hm, hr => by
  simp only [useD] at hm
  simp only [rd] at hr ⊢
  obtain ⟨us', cs', h1, h2, h3⟩ := hr
  exact ⟨us', cs', h1, rdV_use W us _ (by simp only [Bool.and_eq_true] at hm; exact hm.1) h2, rdV_use W cs _ (by simp only [Bool.and_eq_true] at hm; exact hm.2) h3⟩
 | .nilifc, _, _, hr => by simpa [rd] using hr
 | .ifc t d, v, hm, hr => by
  simp only [useD] at hm
  simp only [rd] at hr ⊢
  obtain ⟨u, h1, h2⟩ := hr
  exact ⟨u, h1, rd_use W d u hm h2⟩
 | .agg cs, v, hm, hr => by
  simp only [useD] at hm
  simp only [rd] at hr ⊢
  obtain ⟨us, h1, h2⟩ := hr
  exact ⟨us, h1, rdV_use W cs _ hm h2⟩
 | .tup cs, v, hm, hr => by
  simp only [useD] at hm
  simp only [rd] at hr ⊢
  obtain ⟨us, h1, h2⟩ := hr
  exact ⟨us, h1, rdV_use W cs _ hm h2⟩
theorem rdC_use (W : WeakU cur cur' M M' h h' p) : ∀ (ds : List DVal) (arr : Array Value) (o : Nat), useL p ds = true → rdC cur M h ds arr o → rdC cur' M' h' ds arr o
 | [], _, _, _, _ => by simp [rdC]
 | d :: ds, arr, o, hm, hr => by
  simp only [useL, Bool.and_eq_true] at hm
  simp only [rdC] at hr ⊢
  obtain ⟨⟨v, h1, h1', h2⟩, h3⟩ := hr
  exact ⟨⟨v, h1, h1', rd_use W d v hm.1 h2⟩, rdC_use W ds arr _ hm.2 h3⟩
theorem rdR_use (W : WeakU cur cur' M M' h h' p) : ∀ (k : Nat) (es : List (List DVal)) (arr : Array Value) (o : Nat), useR p es = true → rdR cur M h k es arr o → rdR cur' M' h' k es arr o
 | _, [], _, _, _, _ => by simp [rdR]
 | k, cs :: es, arr, o, hm, hr => by
  simp only [useR, Bool.and_eq_true] at hm
  simp only [rdR] at hr ⊢
  obtain ⟨h1, h2, h3⟩ := hr
  exact ⟨h1, rdC_use W cs arr o hm.1 h2, rdR_use W k es arr _ hm.2 h3⟩
theorem rdV_use (W : WeakU cur cur' M M' h h' p) : ∀ (ds : List DVal) (vs : List Value), useL p ds = true → rdV cur M h ds vs → rdV cur' M' h' ds vs
 | [], _, _, hr => by simpa [rdV] using hr
 | d :: ds, vs, hm, hr => by
  simp only [useL, Bool.and_eq_true] at hm
  simp only [rdV] at hr ⊢
  obtain ⟨v, r, h1, h2, h3⟩ := hr
  exact ⟨v, r, h1, rd_use W d v hm.1 h2, rdV_use W ds r hm.2 h3⟩
end
theorem ObjOK_use {l : Loc} {obj : DObj} (W : WeakU cur cur' M M' h h' p) (hn : useO p obj = true)
  (keep : ∀ b o, b ∈ l.blks → h[b]? = some o → h'[b]? = some o) (hk : ObjOK cur M h l obj) : ObjOK cur' M' h' l obj := by
 cases obj with
 | box cs =>
  obtain ⟨b, arr, ty, h1, h2, h3, h4⟩ := hk
  exact ⟨b, arr, ty, h1, keep b _ (by simp [h1]) h2, h3, rdC_use W cs arr 0 hn h4⟩
 | row et k bs es =>
  obtain ⟨h0, hk⟩ := hk
  refine ⟨h0, hk.imp id ?_⟩
  rintro ⟨b, arr, cap, h1, h2, h3, h4, h5, h6, h7⟩
  exact ⟨b, arr, cap, h1, h2, keep b _ (by simp [h1]) h3, h4, h5, h6, rdR_use W k es arr 0 hn h7⟩
 | map ks vs =>
  simp only [useO, Bool.and_eq_true] at hn
  obtain ⟨b, es, clk, h1, h2, h3, h4, h5⟩ := hk
  exact ⟨b, es, clk, h1, keep b _ (by simp [h1]) h2, h3, rdV_use W ks _ hn.1 h4, rdV_use W vs _ hn.2 h5⟩
 | mapD ks vs =>
  simp only [useO, Bool.and_eq_true] at hn
  obtain ⟨b, es, clk, h1, h2, h3, h4, h5⟩ := hk
  exact ⟨b, es, clk, h1, keep b _ (by simp [h1]) h2, h3, rdV_use W ks _ hn.1 h4, rdV_use W vs _ hn.2 h5⟩
 | abs A => simp [useO] at hn
 | lrec st sl nt ps assign body => simp [useO] at hn
 | glob g vs =>
  obtain ⟨h1, arr, ty, h2, h3, h4⟩ := hk
  exact ⟨h1, arr, ty, keep g _ (by simp [h1]) h2, rdC_use W _ arr 0 (useL_globD _ _) h3, h4⟩
end
def puts (own : List Ent) : List Ent → List Ent
 | [] => own
 | e :: l => puts (upE own e.id e.r e.obj) l
noncomputable def putAll (T : OT) : List Ent → OT
 | [] => T
 | e :: l => putAll (Mp.put e e.id T) l
theorem OwR.puts {own : List Ent} : ∀ {l : List Ent} {T : OT}, OwR own T → OwR (puts own l) (putAll T l)
 | [], T, h => h
 | e :: l, T, h => OwR.puts (own := upE own e.id e.r e.obj) (h.up e)
theorem OwR_mt : OwR [] (Mp.mt 16) := fun id => by
 unfold fnd
 rw [Mp.get_mt]
 rfl
theorem mem_upE {own : List Ent} {a e : Ent} : e ∈ upE own a.id a.r a.obj ↔ e = a ∨ (e ∈ own ∧ e.id ≠ a.id) := by
 unfold upE
 rw [List.mem_cons, mem_delE]
theorem mem_puts : ∀ {l own : List Ent} {e : Ent}, (l.map (·.id)).Nodup → (e ∈ puts own l ↔ e ∈ l ∨ (e ∈ own ∧ ∀ x ∈ l, x.id ≠ e.id))
 | [], own, e, _ => by simp [puts]
 | a :: l, own, e, hn => by
  simp only [List.map_cons, List.nodup_cons] at hn
  simp only [puts]
  rw [mem_puts hn.2, mem_upE]
  simp only [List.mem_cons, forall_eq_or_imp]
  constructor
  ·rintro (h | ⟨rfl | ⟨h1, h2⟩, h3⟩)
   ·exact .inl (.inr h)
   ·exact .inl (.inl rfl)
   ·exact .inr ⟨h1, fun h => h2 h.symm, h3⟩
  ·rintro ((rfl | h) | ⟨h1, h2, h3⟩)
   ·exact .inr ⟨.inl rfl, fun x hx h => hn.1 (by rw [← h]; exact List.mem_map_of_mem hx)⟩
   ·exact .inl h
   ·exact .inr ⟨.inr ⟨h1, fun h => h2 h.symm⟩, h3⟩
theorem nodup_puts : ∀ {l own : List Ent}, (own.map (·.id)).Nodup → ((puts own l).map (·.id)).Nodup
 | [], own, h => h
 | a :: l, own, h => nodup_puts (own := upE own a.id a.r a.obj) (nodup_upE h)
theorem findE_mem_iff {own : List Ent} (hn : (own.map (·.id)).Nodup) {e : Ent} {id : Nat} : findE own id = some e ↔ e ∈ own ∧ e.id = id := by
 constructor
 ·intro h; exact findE_mem h
 ·rintro ⟨h, rfl⟩; exact findE_of_mem hn h
theorem nodup_of_ids {l : List Ent} (h : (l.map (·.id)).Nodup) : l.Nodup := by
 induction l with
 | nil => exact List.nodup_nil
 | cons a t ih =>
  simp only [List.map_cons, List.nodup_cons] at h ⊢
  exact ⟨fun hm => h.1 (List.mem_map_of_mem hm), ih h.2⟩
theorem hot_cong {l : List Ent} {loc loc' : Nat → Loc} (h : ∀ e ∈ l, loc' e.id = loc e.id) : hotOf l loc' = hotOf l loc := by
 induction l with
 | nil => rfl
 | cons a t ih =>
  rw [hot_cons, hot_cons, h a List.mem_cons_self, ih fun e he => h e (List.mem_cons_of_mem _ he)]
theorem mxE_sub {own own1 : List Ent} (h : ∀ e ∈ own1, e ∈ own) : mxE own1 ≤ mxE own := mxE_le fun e he => by
 have := mem_mxE (h e he)
 omega
theorem St.sub {own own1 : List Ent} {loc : Nat → Loc} {M : List Nat} {h : Array Obj} (S : St own loc M h) (nd : (own1.map (·.id)).Nodup) (ho : ∀ e ∈ own1, e ∈ own) :
  St own1 loc M h ∧ (∀ b ∈ hotOf own1 loc, b ∈ hotOf own loc) ∧ ∀ d v, rd (curOf own loc) (hotOf own loc ++ M) h d v → rd (curOf own1 loc) (hotOf own1 loc ++ M) h d v := by
 have hcur : ∀ id r l, curOf own1 loc id r = some l → curOf own loc id r = some l := by
  intro id r l h
  obtain ⟨e, he, rfl, rfl, rfl⟩ := curOf_some h
  exact curOf_self S.nd (ho e he)
 have hhot : ∀ b ∈ hotOf own1 loc, b ∈ hotOf own loc := by
  intro b hb
  obtain ⟨e, he, h1⟩ := List.mem_flatMap.1 hb
  exact mem_hot (ho e he) h1
 have hM : ∀ b ∈ hotOf own1 loc ++ M, b ∈ hotOf own loc ++ M := by
  intro b hb
  rcases List.mem_append.1 hb with h | h
  ·exact List.mem_append_left _ (hhot b h)
  ·exact List.mem_append_right _ h
 have W : ∀ n, Weak (curOf own loc) (curOf own1 loc) (hotOf own loc ++ M) (hotOf own1 loc ++ M) h h n := fun n =>
  ⟨fun id r l _ hl => hcur id r l hl, fun b o _ (_ : isD o = true) ho => ho, fun b o hb (_ : isD o = true) _ hm' => hb (hM b hm')⟩
 exact ⟨⟨nd, hot_nodup_sub S.bl _ nd ho, fun b hb => S.ap b (hhot b hb), fun b hb => S.lt b (hM b hb), fun e he => ObjOK_weak (W _) (Nat.le_refl _) (fun b o _ h => h) (S.ok e (ho e he))⟩, hhot, fun d v hr => rd_weak (W _) d v (Nat.le_refl _) hr⟩
theorem SpecAtF.out {P : Program} {f : Fn} {args : List DVal} {own own' own1 : List Ent} {r r' : Nat} {d : DVal} (h : SpecAtF P f args own r d own' r') (nd : (own1.map (·.id)).Nodup) (ho : ∀ e ∈ own1, e ∈ own') : SpecAtF P f args own r d own1 r' := by
 obtain ⟨hE, hb, hS⟩ := h
 refine ⟨hE, fun h1 h2 => ⟨(hb h1 h2).1, (hb h1 h2).2.1, Nat.le_trans (mxE_sub ho) (hb h1 h2).2.2⟩, fun M w loc vs h1 h2 S hr => (hS M w loc vs h1 h2 S hr).mono ?_⟩
 rintro v w' ⟨loc', S', hu, hnew, hver, hrd⟩
 obtain ⟨S1, hhot, hd⟩ := S'.sub nd ho
 exact ⟨loc', S1, hu, fun b hb => hnew b (hhot b hb), fun e he hlt => hver e (ho e he) hlt, hd _ _ hrd⟩
theorem SpecAtF.frame {P : Program} {f : Fn} {args : List DVal} {own1 own1' own own' : List Ent} {r r' : Nat} {d : DVal} (h : SpecAtF P f args own1 r d own1' r')
  (hn1 : (own1.map (·.id)).Nodup) (hin : ∀ e ∈ own1, e ∈ own) (hn1' : (own1'.map (·.id)).Nodup) (hkeep : ∀ e ∈ own1, ∃ e' ∈ own1', e'.id = e.id)
  (hnew : ∀ e' ∈ own1', (∃ e ∈ own1, e.id = e'.id) ∨ ∀ e ∈ own, e.id ≠ e'.id) {p : Nat → Bool} (hp : ∀ id, p id = true → ∃ e ∈ own1', e.id = id) (hus : ∀ e ∈ own1', useO p e.obj = true) (hud : useD p d = true)
  (hn' : (own'.map (·.id)).Nodup) (hmem : ∀ e, e ∈ own' ↔ e ∈ own1' ∨ (e ∈ own ∧ ∀ x ∈ own1', x.id ≠ e.id)) : SpecAtF P f args own r d own' r' := by
 obtain ⟨hE, hb, hS⟩ := h
 have hb1 : mxE own ≤ r → mxE own1 ≤ r := fun h => Nat.le_trans (mxE_sub hin) h
 refine ⟨hE, fun h1 h2 => ?_, fun M w loc vs h1 h2 S hr => ?_⟩
 ·obtain ⟨g1, g2, g3⟩ := hb (hb1 h1) h2
  refine ⟨g1, g2, mxE_le fun e he => ?_⟩
  rcases (hmem e).1 he with he | ⟨he, _⟩
  ·have := mem_mxE he; omega
  ·have := mem_mxE he; omega
 ·obtain ⟨rest, hrest⟩ : ∃ rest : List Ent, rest = own.filter fun e => !(own1'.any fun x => x.id == e.id) := ⟨_, rfl⟩
  have mr : ∀ e, e ∈ rest ↔ e ∈ own ∧ ∀ x ∈ own1', x.id ≠ e.id := by
   intro e
   rw [hrest, List.mem_filter]
   simp
  have nr : (rest.map (·.id)).Nodup := by rw [hrest]; exact List.Sublist.nodup (List.Sublist.map _ List.filter_sublist) S.nd
  have hdis : ∀ b ∈ hotOf own1 loc, b ∉ hotOf rest loc := by
   intro b hb1 hb2
   obtain ⟨e1, he1, g1⟩ := List.mem_flatMap.1 hb1
   obtain ⟨e2, he2, g2⟩ := List.mem_flatMap.1 hb2
   have := congrArg Ent.id (hot_inj S.bl e1 (hin e1 he1) e2 ((mr e2).1 he2).1 b g1 g2)
   obtain ⟨e', he', h'⟩ := hkeep e1 he1
   exact ((mr e2).1 he2).2 e' he' (by omega)
  have hsub1 : ∀ b ∈ hotOf own1 loc, b ∈ hotOf own loc := fun b hb => by
   obtain ⟨e, he, h1⟩ := List.mem_flatMap.1 hb
   exact mem_hot (hin e he) h1
  have hsub2 : ∀ b ∈ hotOf rest loc, b ∈ hotOf own loc := fun b hb => by
   obtain ⟨e, he, h1⟩ := List.mem_flatMap.1 hb
   exact mem_hot ((mr e).1 he).1 h1
  have hall : ∀ b, b ∈ hotOf own1 loc ++ (hotOf rest loc ++ M) → b ∈ hotOf own loc ++ M := by
   intro b hb
   rcases List.mem_append.1 hb with h | h
   ·exact List.mem_append_left _ (hsub1 b h)
   ·rcases List.mem_append.1 h with h | h
    ·exact List.mem_append_left _ (hsub2 b h)
    ·exact List.mem_append_right _ h
  have hcur : ∀ id r l, curOf own1 loc id r = some l → curOf own loc id r = some l := by
   intro id r l h
   obtain ⟨e, he, rfl, rfl, rfl⟩ := curOf_some h
   exact curOf_self S.nd (hin e he)
  have W : ∀ n, Weak (curOf own loc) (curOf own1 loc) (hotOf own loc ++ M) (hotOf own1 loc ++ (hotOf rest loc ++ M)) w.heap w.heap n := fun n =>
   ⟨fun id r l _ hl => hcur id r l hl, fun b o _ (_ : isD o = true) ho => ho, fun b o hb (_ : isD o = true) _ hm' => hb (hall b hm')⟩
  have S1 : St own1 loc (hotOf rest loc ++ M) w.heap := by
   refine ⟨hn1, hot_nodup_sub S.bl _ hn1 hin, fun b hb hm' => ?_, fun b hb => S.lt b (hall b hb), fun e he => ObjOK_weak (W _) (Nat.le_refl _) (fun b o _ h => h) (S.ok e (hin e he))⟩
   rcases List.mem_append.1 hm' with h | h
   ·exact hdis b hb h
   ·exact S.ap b (hsub1 b hb) h
  refine (hS (hotOf rest loc ++ M) w loc vs (hb1 h1) h2 S1 (rdV_weak (W _) _ _ (Nat.le_refl _) hr)).mono ?_
  rintro v w' ⟨loc1, S', hu, hnw, hver, hrd⟩
  -- where the objects lie then
  obtain ⟨loc', hloc⟩ : ∃ loc' : Nat → Loc, loc' = fun id => if (own1'.any fun x => x.id == id) = true then loc1 id else loc id := ⟨_, rfl⟩
  have l1 : ∀ e ∈ own1', loc' e.id = loc1 e.id := by
   intro e he
   rw [hloc]
   simp only
   rw [if_pos (List.any_eq_true.2 ⟨e, he, by simp⟩)]
  have l2 : ∀ e ∈ rest, loc' e.id = loc e.id := by
   intro e he
   rw [hloc]
   simp only
   rw [if_neg]
   rw [List.any_eq_true]
   rintro ⟨x, hx, hxe⟩
   exact ((mr e).1 he).2 x hx (by simpa using hxe)
  have h1hot : hotOf own1' loc' = hotOf own1' loc1 := hot_cong l1
  have h2hot : hotOf rest loc' = hotOf rest loc := hot_cong l2
  have hperm : own'.Perm (own1' ++ rest) := by
   have nd1 : own'.Nodup := nodup_of_ids hn'
   have nd2 : (own1' ++ rest).Nodup := by
    rw [List.nodup_append]
    refine ⟨nodup_of_ids hn1', nodup_of_ids nr, ?_⟩
    rintro a ha b hb rfl
    exact ((mr a).1 hb).2 a ha rfl
   refine (List.perm_ext_iff_of_nodup nd1 nd2).2 fun e => ?_
   rw [List.mem_append, hmem, mr]
  have hot' : (hotOf own' loc').Perm (hotOf own1' loc1 ++ hotOf rest loc) := by
   have := hperm.flatMap_right fun e => (loc' e.id).blks
   rw [List.flatMap_append] at this
   have e1 : own1'.flatMap (fun e => (loc' e.id).blks) = hotOf own1' loc1 := h1hot
   have e2 : rest.flatMap (fun e => (loc' e.id).blks) = hotOf rest loc := h2hot
   rw [e1, e2] at this
   exact this
  have mhot : ∀ b, b ∈ hotOf own' loc' ↔ b ∈ hotOf own1' loc1 ∨ b ∈ hotOf rest loc := fun b => by rw [hot'.mem_iff, List.mem_append]
  have hnin : ∀ b ∈ hotOf own1' loc1, b ∉ hotOf rest loc ∧ b ∉ M := fun b hb => by
   have := S'.ap b hb
   rw [List.mem_append, not_or] at this
   exact this
  have hlt' : ∀ b, b ∈ hotOf own' loc' ++ M → b < w'.heap.size := by
   intro b hb
   refine S'.lt b ?_
   rcases List.mem_append.1 hb with h | h
   ·rcases (mhot b).1 h with h | h
    ·exact List.mem_append_left _ h
    ·exact List.mem_append_right _ (List.mem_append_left _ h)
   ·exact List.mem_append_right _ (List.mem_append_right _ h)
  -- ids of own' in the old state
  have hcur' : ∀ id q l, q < r → curOf own' loc' id q = some l → curOf own loc id q = some l := by
   intro id q l hq h
   obtain ⟨e, he, rfl, rfl, rfl⟩ := curOf_some h
   rcases (hmem e).1 he with he1 | he1
   ·have := hver e he1 hq
    rw [l1 e he1]
    exact hcur _ _ _ this
   ·rw [l2 e ((mr e).2 he1)]
    exact curOf_self S.nd he1.1
  have hW1 : WeakU (curOf own1' loc1) (curOf own' loc') (hotOf own1' loc1 ++ (hotOf rest loc ++ M)) (hotOf own' loc' ++ M) w'.heap w'.heap p := by
   refine ⟨fun id q l hpi h => ?_, fun b o _ _ h => h, fun b o hb _ _ hm' => hb ?_⟩
   ·obtain ⟨e, he, rfl, rfl, rfl⟩ := curOf_some h
    obtain ⟨e1, he1, hid⟩ := hp _ hpi
    rcases (hmem e).1 he with he2 | he2
    ·rw [l1 e he2]
     exact curOf_self hn1' he2
    ·exact absurd hid (he2.2 e1 he1)
   ·rcases List.mem_append.1 hm' with h | h
    ·rcases (mhot b).1 h with h | h
     ·exact List.mem_append_left _ h
     ·exact List.mem_append_right _ (List.mem_append_left _ h)
    ·exact List.mem_append_right _ (List.mem_append_right _ h)
  refine ⟨loc', ⟨hn', hot'.nodup_iff.2 ?_, ?_, hlt', fun e he => ?_⟩, ⟨hu.os, hu.tape, hu.output, hu.drawn, hu.size, fun b hb hn => hu.blk b hb fun hm' => hn (hsub1 b hm')⟩, ?_, ?_, rd_use hW1 d v hud hrd⟩
  ·rw [List.nodup_append]
   refine ⟨S'.bl, hot_nodup_sub S.bl _ nr (fun e he => ((mr e).1 he).1), ?_⟩
   rintro a ha b hb rfl
   exact (hnin a ha).1 hb
  ·intro b hb
   rcases (mhot b).1 hb with h | h
   ·exact (hnin b h).2
   ·exact S.ap b (hsub2 b h)
  ·rcases (hmem e).1 he with he1 | he1
   ·rw [l1 e he1]
    exact ObjOK_use hW1 (hus e he1) (fun b o _ h => h) (S'.ok e he1)
   ·have her := (mr e).2 he1
    rw [l2 e her]
    have hmx := mem_mxE he1.1
    refine ObjOK_weak (n := r) ⟨fun id q l hq h => hcur' id q l hq h, fun b o hb (_ : isD o = true) ho => ?_, fun b o hb (_ : isD o = true) ho hm' => ?_⟩ (by omega) (fun b o hb ho => ?_) (S.ok e he1.1)
    ·rw [hu.blk b (Array.getElem?_eq_some_iff.1 ho).1 (fun h => hb (List.mem_append_left _ (hsub1 b h)))]
     exact ho
    ·rcases List.mem_append.1 hm' with h | h
     ·rcases (mhot b).1 h with h | h
      ·rcases hnw b h with h | h
       ·exact hb (List.mem_append_left _ (hsub1 b h))
       ·have := (Array.getElem?_eq_some_iff.1 ho).1
        omega
      ·exact hb (List.mem_append_left _ (hsub2 b h))
     ·exact hb (List.mem_append_right _ h)
    ·rw [hu.blk b (Array.getElem?_eq_some_iff.1 ho).1 (fun h => hdis b h (mem_hot her hb))]
     exact ho
  ·intro b hb
   rcases (mhot b).1 hb with h | h
   ·exact (hnw b h).imp (hsub1 b) id
   ·exact .inl (hsub2 b h)
  ·intro e he hlt
   exact hcur' _ _ _ hlt (curOf_self hn' he)
def beqO : DObj → DObj → Bool
 | .box a, .box b => beqL a b
 | .row t k b es, .row t' k' b' es' => Nat.beq t t' && Nat.beq k k' && Nat.beq b b' && beqR es es'
 | .map a b, .map a' b' => beqL a a' && beqL b b'
 | .mapD a b, .mapD a' b' => beqL a a' && beqL b b'
 | .glob g a, .glob g' a' => Nat.beq g g' && decide (a = a')
 | _, _ => false
theorem beqO_eq (a b : DObj) (h : beqO a b = true) : a = b := by
 unfold beqO at h
 split at h
 ·rw [beqL_eq _ _ h]
 ·simp only [Bool.and_eq_true] at h
  obtain ⟨⟨⟨h1, h2⟩, h3⟩, h4⟩ := h
  rw [Nat.eq_of_beq_eq_true h1, Nat.eq_of_beq_eq_true h2, Nat.eq_of_beq_eq_true h3, beqR_eq _ _ h4]
 ·simp only [Bool.and_eq_true] at h
  rw [beqL_eq _ _ h.1, beqL_eq _ _ h.2]
 ·simp only [Bool.and_eq_true] at h
  rw [beqL_eq _ _ h.1, beqL_eq _ _ h.2]
 ·simp only [Bool.and_eq_true, decide_eq_true_eq] at h
  rw [Nat.eq_of_beq_eq_true h.1, h.2]
 ·simp at h
def beqE (a b : Ent) : Bool := Nat.beq a.id b.id && Nat.beq a.r b.r && beqO a.obj b.obj
theorem beqE_eq {a b : Ent} (h : beqE a b = true) : a = b := by
 unfold beqE at h
 simp only [Bool.and_eq_true] at h
 obtain ⟨⟨h1, h2⟩, h3⟩ := h
 cases a; cases b
 simp only [Ent.mk.injEq]
 exact ⟨Nat.eq_of_beq_eq_true h1, Nat.eq_of_beq_eq_true h2, beqO_eq _ _ h3⟩
def hasE (T : OT → Nat → Option Ent) (t : OT) (e : Ent) : Bool := match T t e.id with
 | some e' => beqE e' e
 | none => false
noncomputable def hasL (T : OT) (l : List Ent) : Bool := List.rec (motive := fun _ => Bool) true (fun e _ ih => Bool.rec (motive := fun _ => Bool) false ih (hasE fnd T e)) l
theorem hasL_ok {T : OT} : ∀ {l : List Ent}, hasL T l = true → ∀ e ∈ l, fnd T e.id = some e
 | [], _, e, he => by simp at he
 | a :: l, h, e, he => by
  have h' : (Bool.rec (motive := fun _ => Bool) false (hasL T l) (hasE fnd T a)) = true := h
  cases ha : hasE fnd T a with
  | false => rw [ha] at h'; simp at h'
  | true =>
   rw [ha] at h'
   rcases List.mem_cons.1 he with rfl | he
   ·unfold hasE at ha
    split at ha
    ·rename_i e' he'
     rw [he', beqE_eq ha]
    ·simp at ha
   ·exact hasL_ok h' e he
def idB (l : List Ent) (i : Nat) : Bool := l.any fun e => Nat.beq e.id i
theorem idB_ok {l : List Ent} {i : Nat} : idB l i = true ↔ ∃ e ∈ l, e.id = i := by
 unfold idB
 rw [List.any_eq_true]
 constructor
 ·rintro ⟨e, he, h⟩; exact ⟨e, he, Nat.eq_of_beq_eq_true h⟩
 ·rintro ⟨e, he, rfl⟩; exact ⟨e, he, by simp⟩
def ndB : List Ent → Bool
 | [] => true
 | e :: l => !idB l e.id && ndB l
theorem ndB_ok : ∀ {l : List Ent}, ndB l = true → (l.map (·.id)).Nodup
 | [], _ => by simp
 | e :: l, h => by
  simp only [ndB, Bool.and_eq_true, Bool.not_eq_true'] at h
  simp only [List.map_cons, List.nodup_cons]
  refine ⟨fun hm => ?_, ndB_ok h.2⟩
  obtain ⟨x, hx, hxe⟩ := List.mem_map.1 hm
  have : idB l e.id = true := idB_ok.2 ⟨x, hx, hxe⟩
  rw [h.1] at this
  simp at this
structure CE where
 g : FuncId
 r : Nat
 args : List DVal
 own : List Ent
 d : DVal
 new : List Ent
 r' : Nat
def CE.out (c : CE) : List Ent := c.new ++ c.own.filter fun e => !idB c.new e.id
def CE.ok (c : CE) : Bool := ndB c.own && ndB c.new && (c.own.all fun e => useO (idB c.out) e.obj) && (c.new.all fun e => useO (idB c.out) e.obj) && useD (idB c.out) c.d
noncomputable def CE.run (P : Program) (N : Nat) (O : CallK) (n : Nat) (c : CE) : Bool := match callQ P N O n (.fn c.g) c.args (putAll (Mp.mt 16) c.own) c.r with
 | some (d, T, r') => beqD d c.d && Nat.beq r' c.r' && hasL T c.out
 | none => false
def CE.holds (P : Program) (c : CE) : Prop := c.ok = true ∧ SpecAtF P (.func c.g) c.args c.own c.r c.d c.out c.r'
section
variable {P : Program} {N : Nat} {O : CallK}
theorem CE.nd_out {c : CE} (h : c.ok = true) : (c.out.map (·.id)).Nodup := by
 unfold CE.ok at h
 simp only [Bool.and_eq_true] at h
 obtain ⟨⟨⟨⟨h1, h2⟩, _⟩, _⟩, _⟩ := h
 unfold CE.out
 rw [List.map_append, List.nodup_append]
 refine ⟨ndB_ok h2, List.Sublist.nodup (List.Sublist.map _ List.filter_sublist) (ndB_ok h1), ?_⟩
 rintro a ha b hb rfl
 obtain ⟨x, hx, rfl⟩ := List.mem_map.1 ha
 obtain ⟨y, hy, hxy⟩ := List.mem_map.1 hb
 have := (List.mem_filter.1 hy).2
 rw [show idB c.new y.id = true from idB_ok.2 ⟨x, hx, hxy.symm⟩] at this
 simp at this
theorem CE.holds_of (hm : P.follows .mixedOrders = true) (hO : CallOKK P O) {n : Nat} {c : CE} (h1 : c.ok = true) (h2 : c.run P N O n = true) (hb : mxE c.own ≤ c.r) (ha : mxL c.args ≤ c.r) : c.holds P := by
 refine ⟨h1, ?_⟩
 have h1' := h1
 unfold CE.ok at h1'
 simp only [Bool.and_eq_true] at h1'
 obtain ⟨⟨⟨⟨n1, n2⟩, _⟩, _⟩, _⟩ := h1'
 unfold CE.run at h2
 split at h2
 ·rename_i d T r' hcall
  simp only [Bool.and_eq_true] at h2
  obtain ⟨⟨g1, g2⟩, g3⟩ := h2
  have hOw : OwR c.own (putAll (Mp.mt 16) c.own) := by
   have h := OwR_mt.puts (l := c.own)
   intro id
   rw [h id]
   have hiff : ∀ e, e ∈ puts [] c.own ↔ e ∈ c.own := fun e => by rw [mem_puts (ndB_ok n1)]; simp
   have hn := nodup_puts (own := []) (l := c.own) (by simp)
   cases hf : findE (puts [] c.own) id with
   | some e =>
    have := (findE_mem_iff hn).1 hf
    exact ((findE_mem_iff (ndB_ok n1)).2 ⟨(hiff e).1 this.1, this.2⟩).symm
   | none =>
    cases hf2 : findE c.own id with
    | none => rfl
    | some e =>
     have := (findE_mem_iff (ndB_ok n1)).1 hf2
     rw [(findE_mem_iff hn).2 ⟨(hiff e).2 this.1, this.2⟩] at hf
     simp at hf
  obtain ⟨own', ho, hS⟩ := callQ_ok hm hO n _ _ _ _ _ _ _ hcall c.own hOw hb ha
  have hd := beqD_eq _ _ g1
  subst hd
  have hr := Nat.eq_of_beq_eq_true g2
  subst hr
  refine SpecAtF.out hS (CE.nd_out h1) fun e he => ?_
  have := hasL_ok g3 e he
  rw [ho e.id] at this
  exact (findE_mem this).1
 ·simp at h2
noncomputable def orcT (tbl : List CE) : CallK := fun t args T r => match t with
 | .fn g => List.rec (motive := fun _ => Option (DVal × OT × Nat)) none (fun c _ ih => match Nat.beq c.g g && Nat.beq c.r r with
  | true => (match beqL args c.args && hasL T c.own && (c.new.all fun e => idB c.own e.id || (fnd T e.id).isNone) with
   | true => some (c.d, putAll T c.new, c.r')
   | false => none)
  | false => ih) tbl
 | .yl _ _ => none
theorem orcT_ok {tbl : List CE} (h : ∀ c ∈ tbl, c.holds P) : CallOKK P (orcT tbl) := by
 intro t args T r d T' r' hx own ho hb ha
 cases t with
 | yl id v => simp [orcT] at hx
 | fn g =>
  induction tbl with
  | nil => simp [orcT] at hx
  | cons c tbl ih =>
   have hx' : (match Nat.beq c.g g && Nat.beq c.r r with
    | true => (match beqL args c.args && hasL T c.own && (c.new.all fun e => idB c.own e.id || (fnd T e.id).isNone) with
     | true => some (c.d, putAll T c.new, c.r')
     | false => none)
    | false => orcT tbl (.fn g) args T r) = some (d, T', r') := hx
   split at hx'
   ·rename_i hg
    split at hx'
    ·rename_i hc
     simp only [Option.some.injEq, Prod.mk.injEq] at hx'
     obtain ⟨rfl, rfl, rfl⟩ := hx'
     simp only [Bool.and_eq_true] at hg hc
     obtain ⟨hg1, hg2⟩ := hg
     obtain ⟨⟨c1, c2⟩, c3⟩ := hc
     obtain ⟨hok, hS⟩ := h c List.mem_cons_self
     have h1' := hok
     unfold CE.ok at h1'
     simp only [Bool.and_eq_true] at h1'
     obtain ⟨⟨⟨⟨n1, n2⟩, u1⟩, u2⟩, u3⟩ := h1'
     have e1 := Nat.eq_of_beq_eq_true hg1
     have e2 := Nat.eq_of_beq_eq_true hg2
     have e3 := beqL_eq _ _ c1
     subst e1; subst e2; subst e3
     refine ⟨puts own c.new, ho.puts, ?_⟩
     -- the frame wants the list's members
     have hin : ∀ e ∈ c.own, e ∈ own := fun e he => by
      have := hasL_ok c2 e he
      rw [ho e.id] at this
      exact (findE_mem this).1
     have hout : ∀ e, e ∈ c.out ↔ e ∈ c.new ∨ (e ∈ c.own ∧ ∀ x ∈ c.new, x.id ≠ e.id) := by
      intro e
      unfold CE.out
      rw [List.mem_append, List.mem_filter]
      constructor
      ·rintro (h | ⟨h1, h2⟩)
       ·exact .inl h
       ·refine .inr ⟨h1, fun x hx hxe => ?_⟩
        rw [show idB c.new e.id = true from idB_ok.2 ⟨x, hx, hxe⟩] at h2
        simp at h2
      ·rintro (h | ⟨h1, h2⟩)
       ·exact .inl h
       ·refine .inr ⟨h1, ?_⟩
        cases hi : idB c.new e.id with
        | false => rfl
        | true => obtain ⟨x, hx, hxe⟩ := idB_ok.1 hi; exact absurd hxe (h2 x hx)
     have hkeep : ∀ e ∈ c.own, ∃ e' ∈ c.out, e'.id = e.id := by
      intro e he
      by_cases hi : ∃ x ∈ c.new, x.id = e.id
      ·obtain ⟨x, hx, hxe⟩ := hi
       exact ⟨x, (hout x).2 (.inl hx), hxe⟩
      ·exact ⟨e, (hout e).2 (.inr ⟨he, fun x hx hxe => hi ⟨x, hx, hxe⟩⟩), rfl⟩
     refine ⟨hS.1, fun _ _ => ?_, fun M w loc vs h1 h2 S hr => ?_⟩
     ·obtain ⟨g1, g2, g3⟩ := hS.2.1 (Nat.le_trans (mxE_sub hin) hb) ha
      refine ⟨g1, g2, mxE_le fun e he => ?_⟩
      rcases (mem_puts (ndB_ok n2)).1 he with he | ⟨he, _⟩
      ·have := mem_mxE ((hout e).2 (.inl he)); omega
      ·have := mem_mxE he; omega
     ·have F := SpecAtF.frame (own := own) (own' := puts own c.new) hS (ndB_ok n1) hin (CE.nd_out hok) hkeep (fun e' he' => ?_) (p := idB c.out) (fun id hid => idB_ok.1 hid) (fun e he => ?_) u3 (nodup_puts S.nd) (fun e => ?_)
      ·exact F.2.2 M w loc vs h1 h2 S hr
      ·rcases (hout e').1 he' with he | ⟨he, _⟩
       ·have := List.all_eq_true.1 c3 e' he
        simp only [Bool.or_eq_true] at this
        rcases this with h | h
        ·obtain ⟨x, hx, hxe⟩ := idB_ok.1 h
         exact .inl ⟨x, hx, hxe⟩
        ·refine .inr fun e he2 heq => ?_
         rw [ho e'.id] at h
         rw [← heq, findE_of_mem S.nd he2] at h
         simp at h
       ·exact .inl ⟨e', he, rfl⟩
      ·rcases (hout e).1 he with he | ⟨he, _⟩
       ·exact List.all_eq_true.1 u2 e he
       ·exact List.all_eq_true.1 u1 e he
      ·rw [mem_puts (ndB_ok n2), hout]
       constructor
       ·rintro (h | ⟨h1, h2⟩)
        ·exact .inl (.inl h)
        ·by_cases hi : e ∈ c.own
         ·exact .inl (.inr ⟨hi, h2⟩)
         ·refine .inr ⟨h1, fun x hx hxe => ?_⟩
          rcases (hout x).1 hx with h | ⟨h, _⟩
          ·exact h2 x h hxe
          ·have a1 := findE_of_mem S.nd (hin x h)
           have a2 := findE_of_mem S.nd h1
           rw [hxe, a2] at a1
           simp only [Option.some.injEq] at a1
           exact hi (a1 ▸ h)
       ·rintro ((h | ⟨h1, h2⟩) | ⟨h1, h2⟩)
        ·exact .inl h
        ·exact .inr ⟨hin e h1, h2⟩
        ·exact .inr ⟨h1, fun x hx => h2 x ((hout x).2 (.inl hx))⟩
    ·simp at hx'
   ·exact ih (fun c hc => h c (List.mem_cons_of_mem _ hc)) hx'
noncomputable def orE (a b : CallK) : CallK := fun t args T r => match a t args T r with
 | some x => some x
 | none => b t args T r
theorem orE_ok {a b : CallK} (ha : CallOKK P a) (hb : CallOKK P b) : CallOKK P (orE a b) := by
 intro t args T r d T' r' h own ho h1 h2
 unfold orE at h
 split at h
 ·rename_i x hx
  simp only [Option.some.injEq] at h
  subst h
  exact ha _ _ _ _ _ _ _ hx own ho h1 h2
 ·exact hb _ _ _ _ _ _ _ h own ho h1 h2
end
attribute [simp] kD_f kG_f callG wkA isE wk1 wkL wk mapOf ixV sliceP annAt cellsK isAggD Op.operands Call.operands strip okG okL okOp stripE pickV pickOK dOpD dOpG putS getS ev ofV ofV1 nPre nVal bPre bVal cellsAt rowsOf findE setE delE callee gSlot gB gOK dstOK idxVal arrP arrV dbin cellsD splice fillD tPlace plainD oneO isCur argS ckAll ckOf eqCs eqC Dthen Dblock Dend resD resL resOne wfL wfD
@[simp] theorem inR64 (n : Int) : inR .i64 n ↔ -9223372036854775808 ≤ n ∧ n ≤ 9223372036854775807 := Iff.rfl
theorem wrap64_in {n : Int} (h1 : -9223372036854775808 ≤ n) (h2 : n ≤ 9223372036854775807) : IntKind.i64.wrap n = n := by
 simp only [IntKind.wrap, IntKind.bits, IntKind.signed]
 simp
 split <;> omega
@[simp] theorem inRu64 (n : Int) : inR .u64 n ↔ 0 ≤ n ∧ n ≤ 18446744073709551615 := Iff.rfl
@[simp] theorem inRu8 (n : Int) : inR .u8 n ↔ 0 ≤ n ∧ n ≤ 255 := Iff.rfl
@[simp] theorem inRu32 (n : Int) : inR .u32 n ↔ 0 ≤ n ∧ n ≤ 4294967295 := Iff.rfl
@[simp] theorem inRi32 (n : Int) : inR .i32 n ↔ -2147483648 ≤ n ∧ n ≤ 2147483647 := Iff.rfl
def isB : DVal → Bool
 | .bool _ => true
 | _ => false
def condB : DVal → Bool
 | .bool b => b
 | _ => false
attribute [simp] isB condB
end Go.Dm
end
