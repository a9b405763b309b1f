/- Parts of a proof, laid together: EvE, EvC, EnFl. -/
import Derived.LoopNIn
import Derived.Test.YtedjakmhhlilaaaGreatqGx14
import Derived.Test.YtedjakmhhlilaaaGreatqGx16
set_option linter.unusedSimpArgs false
set_option linter.unusedVariables false
set_option linter.unusedSectionVars false
section
namespace Go.Dm
variable [DMode]
section
variable (P : Program) (own : List Ent) (e : Operand → DVal)
def appB : List DVal → List TypeId → Bool
 | [a, b], [t, t'] => match tElem P t, tElemId P t with
  | some (k, bs), some et => match strOf b with
   | some x => match destOf own et k bs a with
    | some (_, es) => tStr P t' && zeroOK P t && k == 1 && decide (bs ≤ 65536) && decide ((es.length + x.size) * bs ≤ 150000000000000) && decide (es.length + x.size ≤ 9223372036854775807)
    | none => false
   | none => match destOf own et k bs a, rowsN own b with
    | some (_, es), some (k2, es2) => t' == t && zeroOK P t && decide (0 < k) && (k2 == k || es2.isEmpty) && decide (bs ≤ 65536) && decide ((es.length + es2.length) * bs ≤ 150000000000000) && decide (es.length + es2.length ≤ 9223372036854775807)
    | _, _ => false
  | _, _ => false
 | _, _ => false
def clearB : List DVal → List TypeId → Bool
 | [d], [t] => match tElem P t, tZeroE P t with
  | some (k, _), some zs => match d with
   | .osl id r => match findE own id with
    | some en => match en.obj with
     | .row _ k' _ _ => en.r == r && k' == k && zs.all (oneO []) && zs.length == k && decide (0 < k)
     | _ => false
    | none => false
   | .vw id r k0 _ i m => match findE own id with
    | some en => match en.obj with
     | .row _ k' _ es => en.r == r && k' == k && k0 == k && zs.all (oneO []) && zs.length == k && decide (0 < k) && decide (i + m ≤ es.length)
     | _ => false
    | none => false
   | _ => false
  | _, _ => false
 | _, _ => false
def copyB : List DVal → List TypeId → Bool
 | [d, s], [t, t'] => match tElem P t, partD own d, rowsN own s with
  | some (k, _), some (_, _, i, m, _, k', _, es), some (k2, es2) => t' == t && k' == k && decide (0 < k) && decide (i + m ≤ es.length) && (k2 == k || es2.isEmpty)
  | _, _, _ => false
 | _, _ => false
def delB : List DVal → List TypeId → Bool
 | [m, k], [t, _] => match m, tMap P t with
  | .omp id r', some (kt, _) => match findE own id with
   | some en => match en.obj with
    | .map ks _ => false
    | _ => false
   | none => false
  | _, _ => false
 | _, _ => false
def ePreB (o : Oper) : Bool := match o.op with
 | .buildSlice t len parts => nPreB P own e (.buildSlice t len parts)
 | .box _ x => plainD own (e x)
 | .alloc t => match tZero P t with | some z => z.all (oneO []) | none => false
 | .store t a x => match e a with
  | .bx id r' off => match findE own id with
   | some en => match en.obj with
    | .box cs => en.r == r' && o.dst.isNone && tCells P t == some (cellsD (e x)).length && plainD own (e x) && decide (off + (cellsD (e x)).length ≤ cs.length)
    | _ => false
   | none => false
  | .rx id r' k i j => match findE own id with
   | some en => match en.obj with
    | .row _ k' _ _ => en.r == r' && k' == k && o.dst.isNone && tCells P t == some (cellsD (e x)).length && plainD own (e x) && decide (j + (cellsD (e x)).length ≤ k)
    | _ => false
   | none => false
  | _ => false
 | .makeSlice t l c => match tElem P t, tZeroE P t, e l, e c with
  | some (k, bs), some zs, .int _ n, .int _ m => zs.all (oneO []) && zs.length == k && decide (0 ≤ n) && decide (n ≤ m) && decide (m * bs ≤ 150000000000000) && decide (m ≤ 9223372036854775807)
  | _, _, _, _ => false
 | .makeMap _ _ => true
 | .mapUpdate t m k x => match e m, tMap P t with
  | .omp id r', some (kt, _) => match findE own id with
   | some en => match en.obj with
    | .map ks _ => en.r == r' && o.dst.isNone && keyOK P kt (e k) && ks.all (keyOK P kt)
    | _ => false
   | none => false
  | _, _ => false
 | .call c => match c.callee with
  | .builtin .append => appB P own (c.args.toList.map e) c.argTypes.toList
  | .builtin .clear => clearB P own (c.args.toList.map e) c.argTypes.toList
  | .builtin .copy => copyB P own (c.args.toList.map e) c.argTypes.toList
  | .builtin .delete => delB P own (c.args.toList.map e) c.argTypes.toList
  | _ => false
 | _ => false
end
section
variable {P : Program} {own : List Ent} {e : Operand → DVal}
theorem wdst_none {o : Oper} {r : Nat} (h : o.dst.isNone = true) : (wdst o r).dst = none := by
 simp only [Option.isNone_iff_eq_none] at h
 simp [wdst, h]
theorem ePreB_ok {o : Oper} {r : Nat} {x : ERes} (h : eRes P (wdst o r) e own r = some x) (hb : ePreB P own e o = true) : x.pre := by
 have hop : (wdst o r).op = o.op := rfl
 unfold eRes at h
 rw [hop] at h
 unfold ePreB at hb
 cases ho : o.op <;> rw [ho] at h hb <;> simp only [reduceCtorEq, Bool.false_eq_true] at h hb
 case box t y =>
  split at h
  ·simp only [Option.some.injEq] at h; subst h; exact hb
  ·simp at h
 case buildSlice t len parts =>
  split at h
  ·simp only [Option.some.injEq] at h; subst h
   exact nPreB_ok hb
  ·simp at h
 case alloc t =>
  split at h
  ·rename_i h1 h2
   simp only [Option.some.injEq] at h; subst h
   simpa [h2] using hb
  ·simp at h
 case store t ad y =>
  split at h
  ·rename_i id r' off had
   simp only [had] at hb
   split at h
   ·rename_i en he
    simp only [he] at hb
    split at h
    ·rename_i cs hob
     simp only [hob] at hb
     simp only [Option.some.injEq] at h; subst h
     simp only [Bool.and_eq_true, beq_iff_eq, decide_eq_true_eq] at hb
     obtain ⟨⟨⟨⟨h1, h2⟩, h3⟩, h4⟩, h5⟩ := hb
     exact ⟨h1, wdst_none h2, h3, h4, h5⟩
    ·simp at h
   ·simp at h
  ·rename_i id r' k i j had
   simp only [had] at hb
   unfold eStoreRow at h
   split at h
   ·rename_i en he
    simp only [he] at hb
    split at h
    ·rename_i et k' bs es hob
     simp only [hob] at hb
     split at h
     ·simp only [Option.some.injEq] at h; subst h
      simp only [Bool.and_eq_true, beq_iff_eq, decide_eq_true_eq] at hb
      obtain ⟨⟨⟨⟨⟨h1, h2⟩, h3⟩, h4⟩, h5⟩, h6⟩ := hb
      exact ⟨h1, h2, wdst_none h3, h4, h5, h6⟩
     ·simp at h
    ·simp at h
   ·simp at h
  ·simp at h
 case makeSlice t lo co =>
  unfold eMake at h
  split at h
  ·rename_i h1 h2 h3 h4 h5 h6
   simp only [Option.some.injEq] at h; subst h
   simp only [h2, h4, h5, h6, Bool.and_eq_true, beq_iff_eq, decide_eq_true_eq] at hb
   obtain ⟨⟨⟨⟨⟨g1, g2⟩, g3⟩, g4⟩, g5⟩, g6⟩ := hb
   exact ⟨g1, g2, g3, g4, g5, g6⟩
  ·simp at h
 case makeMap t rv =>
  split at h
  ·simp only [Option.some.injEq] at h; subst h; trivial
  ·simp at h
 case mapUpdate t m k y =>
  split at h
  ·rename_i h1 h2
   simp only [h1, h2] at hb
   split at h
   ·rename_i en he
    simp only [he] at hb
    split at h
    ·rename_i ks vs hob
     simp only [hob] at hb
     simp only [Option.some.injEq] at h; subst h
     simp only [Bool.and_eq_true, beq_iff_eq] at hb
     obtain ⟨⟨⟨g1, g2⟩, g3⟩, g4⟩ := hb
     exact ⟨g1, wdst_none g2, g3, g4⟩
    ·simp at h
   ·simp at h
  ·simp at h
 case call c =>
  obtain ⟨cal, args, ats⟩ := c
  cases cal <;> simp only [reduceCtorEq] at h
  rename_i b
  cases b <;> simp only [reduceCtorEq, Bool.false_eq_true] at h hb
  case append =>
   unfold eAppend at h
   unfold appB at hb
   split at h
   ·rename_i da db t t' hargs hts
    rw [hargs, hts] at hb
    simp only at hb
    split at h
    ·rename_i i k bs et h1 h2 h3
     simp only [h2, h3] at hb
     split at h
     ·rename_i x hstr
      simp only [hstr] at hb
      split at h
      ·rename_i id es hdest
       simp only [hdest, Bool.and_eq_true, beq_iff_eq, decide_eq_true_eq] at hb
       simp only [Option.some.injEq] at h; subst h
       obtain ⟨⟨⟨⟨⟨g1, g2⟩, g3⟩, g4⟩, g5⟩, g6⟩ := hb
       exact ⟨g1, g2, g3, g4, g5, g6⟩
      ·simp at h
     ·rename_i hstr
      simp only [hstr] at hb
      split at h
      ·rename_i id es k2 es2 hdest hsrc
       simp only [hdest, hsrc, Bool.and_eq_true, beq_iff_eq, decide_eq_true_eq, Bool.or_eq_true, List.isEmpty_iff] at hb
       simp only [Option.some.injEq] at h; subst h
       obtain ⟨⟨⟨⟨⟨⟨g1, g2⟩, g3⟩, g4⟩, g5⟩, g6⟩, g7⟩ := hb
       exact ⟨g1, g2, g3, g4, g5, g6, g7⟩
      ·simp at h
    ·simp at h
   ·simp at h
  case copy =>
   unfold eCopy at h
   unfold copyB at hb
   split at h
   ·rename_i d sd t t' hargs hts
    rw [hargs, hts] at hb
    simp only at hb
    split at h
    ·rename_i h1 h2 h3
     simp only [h1, h2, h3, Bool.and_eq_true, beq_iff_eq, decide_eq_true_eq, Bool.or_eq_true, List.isEmpty_iff] at hb
     simp only [Option.some.injEq] at h; subst h
     obtain ⟨⟨⟨⟨g1, g2⟩, g3⟩, g4⟩, g5⟩ := hb
     exact ⟨g1, g2, g3, g4, g5⟩
    ·simp at h
   ·simp at h
  case clear =>
   unfold eClear at h
   unfold clearB at hb
   split at h
   ·rename_i d t hargs hts
    rw [hargs, hts] at hb
    simp only at hb
    split at h
    ·rename_i h1 h2
     simp only [h1, h2] at hb
     split at h
     ·split at h
      ·rename_i en he
       simp only [he] at hb
       split at h
       ·rename_i hob
        simp only [hob, Bool.and_eq_true, beq_iff_eq, decide_eq_true_eq] at hb
        simp only [Option.some.injEq] at h; subst h
        obtain ⟨⟨⟨⟨g1, g2⟩, g3⟩, g4⟩, g5⟩ := hb
        exact ⟨g1, g2, g3, g4, g5⟩
       ·simp at h
      ·simp at h
     ·split at h
      ·rename_i en he
       simp only [he] at hb
       split at h
       ·rename_i hob
        simp only [hob, Bool.and_eq_true, beq_iff_eq, decide_eq_true_eq] at hb
        simp only [Option.some.injEq] at h; subst h
        obtain ⟨⟨⟨⟨⟨⟨g1, g2⟩, g3⟩, g4⟩, g5⟩, g6⟩, g7⟩ := hb
        exact ⟨g1, g2, g3, g4, g5, g6, g7⟩
       ·simp at h
      ·simp at h
     ·simp at h
    ·simp at h
   ·simp at h
  case delete =>
   unfold eDelete at h
   unfold delB at hb
   split at h
   ·rename_i m k t t2 hargs hts
    rw [hargs, hts] at hb
    simp only at hb
    split at h
    ·rename_i h1
     simp only [h1] at hb
     split at h
     ·rename_i en he
      simp only [he] at hb
      split at h
      ·rename_i hob
       simp only [hob, Bool.false_eq_true] at hb
      ·simp at h
     ·simp at h
    ·simp at h
   ·simp at h
end
mutual
def beqD : DVal → DVal → Bool
 | .any, .any => true
 | .undef, .undef => true
 | .sel c d, .sel c' d' => c == c' && beqD d d'
 | .bool b, .bool b' => b == b'
 | .int k n, .int k' n' => decide (k = k') && decide (n = n')
 | .str s, .str s' => decide (s = s')
 | .nilp, .nilp => true
 | .ref l, .ref l' => beqL l l'
 | .bx i r o, .bx i' r' o' => i == i' && r == r' && o == o'
 | .rx i r k a b, .rx i' r' k' a' b' => i == i' && r == r' && k == k' && a == a' && b == b'
 | .nilsl, .nilsl => true
 | .esl, .esl => true
 | .sl k b l, .sl k' b' l' => k == k' && b == b' && beqR l l'
 | .osl i r, .osl i' r' => i == i' && r == r'
 | .vw i r k b x n, .vw i' r' k' b' x' n' => i == i' && r == r' && k == k' && b == b' && x == x' && n == n'
 | .nilmp, .nilmp => true
 | .mp a b, .mp a' b' => beqL a a' && beqL b b'
 | .omp i r, .omp i' r' => i == i' && r == r'
 | .pk i r, .pk i' r' => i == i' && r == r'
 | .nilfn, .nilfn => true
 | .fn f a b, .fn f' a' b' => decide (f = f') && beqL a a' && beqL b b'
 | .nilifc, .nilifc => true
 | .ifc t d, .ifc t' d' => t == t' && beqD d d'
 | .agg l, .agg l' => beqL l l'
 | .tup l, .tup l' => beqL l l'
 | _, _ => false
def beqL : List DVal → List DVal → Bool
 | [], [] => true
 | d :: l, d' :: l' => beqD d d' && beqL l l'
 | _, _ => false
def beqR : List (List DVal) → List (List DVal) → Bool
 | [], [] => true
 | c :: l, c' :: l' => beqL c c' && beqR l l'
 | _, _ => false
end
mutual
theorem beqD_eq : ∀ (d d' : DVal), beqD d d' = true → d = d'
 | d, d', h => by
  cases d <;> cases d' <;> simp only [beqD, Bool.false_eq_true, Bool.and_eq_true, beq_iff_eq, decide_eq_true_eq] at h <;> try rfl
  case sel.sel => rw [h.1, beqD_eq _ _ h.2]
  case bool.bool => rw [h]
  case int.int => rw [h.1, h.2]
  case str.str => rw [h]
  case ref.ref => rw [beqL_eq _ _ h]
  case bx.bx => rw [h.1.1, h.1.2, h.2]
  case rx.rx => rw [h.1.1.1.1, h.1.1.1.2, h.1.1.2, h.1.2, h.2]
  case sl.sl => rw [h.1.1, h.1.2, beqR_eq _ _ h.2]
  case osl.osl => rw [h.1, h.2]
  case vw.vw => rw [h.1.1.1.1.1, h.1.1.1.1.2, h.1.1.1.2, h.1.1.2, h.1.2, h.2]
  case mp.mp => rw [beqL_eq _ _ h.1, beqL_eq _ _ h.2]
  case omp.omp => rw [h.1, h.2]
  case pk.pk => rw [h.1, h.2]
  case fn.fn => rw [h.1.1, beqL_eq _ _ h.1.2, beqL_eq _ _ h.2]
  case ifc.ifc => rw [h.1, beqD_eq _ _ h.2]
  case agg.agg => rw [beqL_eq _ _ h]
  case tup.tup => rw [beqL_eq _ _ h]
theorem beqL_eq : ∀ (l l' : List DVal), beqL l l' = true → l = l'
 | [], [], _ => rfl
 | [], _ :: _, h => by simp [beqL] at h
 | _ :: _, [], h => by simp [beqL] at h
 | d :: l, d' :: l', h => by
  simp only [beqL, Bool.and_eq_true] at h
  rw [beqD_eq d d' h.1, beqL_eq l l' h.2]
theorem beqR_eq : ∀ (l l' : List (List DVal)), beqR l l' = true → l = l'
 | [], [], _ => rfl
 | [], _ :: _, h => by simp [beqR] at h
 | _ :: _, [], h => by simp [beqR] at h
 | d :: l, d' :: l', h => by
  simp only [beqR, Bool.and_eq_true] at h
  rw [beqL_eq d d' h.1, beqR_eq l l' h.2]
end
structure SV where
 slots : List (Nat × DVal)
 own : List Ent
 r : Nat
abbrev CallV := FuncId → List DVal → List Ent → Nat → Option (DVal × List Ent × Nat)
def okGB (c : Bool) : DVal → Bool
 | .sel c' _ => !c || c'
 | _ => true
def okLB (c : Bool) (e : Operand → DVal) : List Operand → Bool
 | [] => true
 | x :: r => okGB c (e x) && okLB c e r
def okOpB (c : Bool) (e : Operand → DVal) (op : Op) : Bool := match op with
 | .pick x a b => okGB c (e x) && match strip (e x) with
  | .bool t => if t then okGB c (e a) else okGB c (e b)
  | _ => true
 | op => okLB c e op.operands.toList
theorem okGB_ok {c : Bool} {d : DVal} (h : okGB c d = true) : okG c d := by
 unfold okGB at h
 unfold okG
 split
 ·rename_i c' d'
  intro hc; subst hc; simpa using h
 ·trivial
theorem okLB_ok {c : Bool} {e : Operand → DVal} : ∀ {l : List Operand}, okLB c e l = true → okL c e l
 | [], _ => trivial
 | x :: l, h => by
  simp only [okLB, Bool.and_eq_true] at h
  exact ⟨okGB_ok h.1, okLB_ok h.2⟩
theorem okOpB_ok {c : Bool} {e : Operand → DVal} {op : Op} (h : okOpB c e op = true) : okOp c e op := by
 unfold okOpB at h
 unfold okOp
 split
 ·simp only [Bool.and_eq_true] at h
  refine ⟨okGB_ok h.1, fun t ht => ?_⟩
  have h2 := h.2
  rw [ht] at h2
  simp only at h2
  cases t
  ·exact ⟨fun h => by simp at h, fun _ => okGB_ok (by simpa using h2)⟩
  ·exact ⟨fun _ => okGB_ok (by simpa using h2), fun h => by simp at h⟩
 ·rename_i hne
  split at h
  ·rename_i x a b; exact absurd rfl (hne x a b)
  ·exact okLB_ok h
section
variable (P : Program)
def neuV (own : List Ent) (e : Operand → DVal) (op : Op) : Option DVal := match xVal P own e op with
 | some d => some d
 | none => if nPreB P own e op then some (nVal P own e op) else none
end
section
variable {P : Program}
theorem neuV_ok {own : List Ent} {e : Operand → DVal} {o : Oper} {d : DVal} (h : neuV P own e o.op = some d) : NeuF P own o e d := by
 unfold neuV at h
 split at h
 ·rename_i hx
  simp only [Option.some.injEq] at h; subst h
  exact .inr hx
 ·split at h
  ·rename_i hp
   simp only [Option.some.injEq] at h; subst h
   exact .inl ⟨nPreB_ok hp, rfl⟩
  ·simp at h
end
theorem wpIn_keep {F : Fence} {n : Nat} {P : Program} {Q : Exit → Act → World → Prop} {o : Oper} {a : Act} {w : World} {K : Act → World → Prop} {t : Nat} {v0 : Value} (ht : o.dst ≠ some t) (h0 : a.tmps.getD t Go.undef = v0)
  (hh : o.wpIn F n P a w K Q) : o.wpIn F n P a w (fun a' w' => K a' w' ∧ a'.tmps.getD t Go.undef = v0) Q := by
 have key : ∀ (a : Act) v, a.tmps.getD t Go.undef = v0 → (a.put o.dst v).tmps.getD t Go.undef = v0 := by
  intro a v h0
  unfold Act.put
  cases hd : o.dst with
  | none => exact h0
  | some i =>
   have hi : i ≠ t := fun e => ht (by rw [hd, e])
   show (a.tmps.setIfInBounds i v).getD t Go.undef = v0
   rw [Array.getD_eq_getD_getElem?] at h0 ⊢
   rw [Array.getElem?_setIfInBounds_ne hi]
   exact h0
 unfold Oper.wpIn at *
 refine ⟨hh.1, ?_⟩
 have hh := hh.2
 generalize (o.semAt F.round a.eval).run P w = r at *
 cases r with
 | ok x w' =>
  cases x <;> simp only [Oper.uponIn] at hh ⊢ <;>
   first
    | exact ⟨hh, key _ _ h0⟩
    | exact ⟨hh, key { a with defers := _ } _ h0⟩
    | exact ⟨hh.1, CallsIn.mono hh.2 (fun e w'' he => by cases e <;> first | exact ⟨he, key _ _ h0⟩ | exact he)⟩
    | exact ⟨hh.1, RowsIn.mono hh.2 (fun _ _ he => ⟨he, key _ _ h0⟩)⟩
    | exact ⟨hh.1, RoundIn.mono hh.2 (fun e w'' he => by cases e <;> first | exact ⟨he, key _ _ h0⟩ | exact he)⟩
 | halt x w' => cases x <;> simp only [Oper.uponIn] at hh ⊢ <;> exact hh
section
variable {P : Program} {B : Base} {s : DS}
def lastOK (lt : Nat) (o : Oper) (n : Nat) : Bool := ((List.range n).all fun k => k == lt || o.after.toList.any fun e => Region.binds .any e && e.on == k) && o.after.toList.all fun e => decide (e.on < n)
def gdOK (ops : Array Oper) : Bool := ops.toList.all fun o => match o.guard with | some (j, _) => decide (j < ops.size) | none => true
theorem run_allocZ {a : Act} {w : World} {i t : Nat} {z : List DVal} {type : TypeId} {pos : String} {after : Array Edge} {guard : Option (Nat × Bool)} (hz : tZero P t = some z) (hp : z.all (oneO []) = true) :
  ∃ us : List Value, (∀ cur M h, rdV cur M h z us) ∧ mxL z = 0 ∧ (∀ u ∈ us, u.oneCell' = true) ∧ (execOp a.eval ⟨some i, .alloc t, type, pos, after, guard⟩).run P w = .ok (.value (.pointer (some ⟨w.heap.size, 0, none⟩))) (w.alloc (.cells us.toArray t)) := by
 obtain ⟨zv, hzr, rfl⟩ := tZero_ok (w := w) hz
 have hmx : mxL (zv.cells.toList.map ofV1) = 0 := by
  have h1 : ∀ v, mx (ofV1 v) = 0 := by
   intro v
   unfold ofV1
   split <;> (try split) <;> simp [mx]
  generalize zv.cells.toList = l
  induction l with
  | nil => simp [mxL]
  | cons v l ih =>
   show max (mx (ofV1 v)) (mxL (l.map ofV1)) = 0
   rw [h1, ih]
   rfl
 refine ⟨zv.cells.toList, fun cur M h => rdV_map_ofV1 _, hmx, ?_, ?_⟩
 ·exact oneO_all (s := ⟨[], []⟩) (loc := fun _ => ⟨[], Go.undef⟩) (M0 := []) (w := w) ⟨by simp, by simp [hotOf], by simp [hotOf], by simp [hotOf], by simp⟩ (zv.cells.toList.map ofV1) zv.cells.toList (List.all_eq_true.2 fun d hd => oneO_nil (List.all_eq_true.1 hp d hd)) (rdV_map_ofV1 _)
 ·simp [execOp, Instr.alloc, hzr, newVar, newRow]
structure LateP (ops3 : Array Oper) (p o : Oper) : Prop where
 ex : ∃ u k, p.op = .extract (.tmp u) k
 g : p.guard = none
 st : ∃ ty x y, o.op = .store ty x y
 nd : o.dst = none
 ap : ∀ d, p.dst = some d → d ∉ o.looksAt ops3
theorem ext_out {p : Oper} {u k : Nat} (hp : p.op = .extract (.tmp u) k) {F : Fence} {n : Nat} {a : Act} {w : World} {C : Act → World → Prop} (h : p.wpIn F n P a w C fun _ _ _ => False) :
  ∃ v, (∀ (a' : Act) (w' : World), a'.tmps = a.tmps → (execOp a'.eval p).run P w' = .ok (.value v) w') ∧ C (a.put p.dst v) w := by
 have hr : ∀ (a' : Act) (w' : World), a'.tmps = a.tmps → execOp a'.eval p = (do pure (.value (← Instr.extract (a.tmps.getD u Go.undef) k))) := by
  intro a' w' ha
  unfold execOp
  rw [hp]
  simp only [Act.eval, ha]
 unfold Oper.wpIn at h
 have h := h.2
 rw [Oper.semAt_eq _ _ _ (fun c hc => by rw [hp] at hc; cases hc), hr a w rfl] at h
 unfold Instr.extract at h hr
 split at h
 ·rename_i vs
  split at h
  ·rename_i v hv
   refine ⟨v, fun a' w' ha => ?_, ?_⟩
   ·rw [hr a' w' ha]
    simp only [*]
    rfl
   ·exact h
  ·exact h.elim
 ·exact h.elim
theorem store_put {ro : Option Nat} {ops : Array Oper} {o : Oper} {a : Act} {d : Option Tmp} {u : Value} {w : World} {K : Act → World → Prop} (hst : ∃ ty x y, o.op = .store ty x y) (hdo : o.dst = none) (h1 : ∀ e, d = some e → e ∉ o.looksAt ops)
  (h : o.wpIn (wd ro) 0 P (a.put d u) w K fun _ _ _ => False) (Q : Exit → Act → World → Prop) : o.wpIn (wd ro) 0 P a w (fun a' w' => K (a'.put d u) w' ∧ a'.tmps = a.tmps) Q := by
 obtain ⟨ty, x, y, hop⟩ := hst
 unfold Oper.wpIn at h ⊢
 rw [about_put o w a d u h1, Oper.semAt_eq _ _ _ (fun c hc => by rw [hop] at hc; cases hc), execOp_put o (fun cs b hc => by rw [hop] at hc; cases hc) a d u h1] at h
 rw [Oper.semAt_eq _ _ _ (fun c hc => by rw [hop] at hc; cases hc)]
 refine ⟨h.1, ?_⟩
 replace h := h.2
 generalize (execOp a.eval o).run P w = r at *
 cases r with
 | ok x w' =>
  cases x <;> simp only [Oper.uponIn, hdo] at h ⊢
  case value v => exact ⟨h, rfl⟩
  case skip => exact ⟨h, rfl⟩
  case defer e =>
   have e1 := Act.put_defers a d u e
   refine ⟨?_, rfl⟩
   have h : K ({ a.put d u with defers := e :: (a.put d u).defers } : Act) w' := h
   rw [e1] at h
   exact h
  case enter f args =>
   refine ⟨h.1, CallsIn.mono h.2 fun e w'' he => ?_⟩
   cases e with
   | returned v => exact ⟨he, rfl⟩
   | panicked c => exact he.elim
   | outgrown => obtain ⟨_, _, he⟩ := he; exact he.elim
  case row row args => exact ⟨h.1, RowsIn.mono h.2 fun v w'' he => ⟨he, rfl⟩⟩
  case round l f tmps assign body =>
   refine ⟨h.1, RoundIn.mono h.2 fun e w'' he => ?_⟩
   cases e with
   | returned v => exact ⟨he, rfl⟩
   | panicked c => exact he.elim
   | outgrown => obtain ⟨_, _, he⟩ := he; exact he.elim
 | halt x w' => cases x <;> simp only [Oper.uponIn] at h <;> exact h.elim
theorem wpIn_Qn {F : Fence} {n : Nat} {o : Oper} {Q1 Q : Exit → Act → World → Prop} {next : Act → World → Prop} {a : Act} {w : World} (hq : ∀ e, e ≠ .normal → ∀ a w, Q1 e a w → Q e a w) (h : o.wpIn F n P a w next Q1) : o.wpIn F n P a w next Q := by
 unfold Oper.wpIn at *
 refine ⟨h.1, ?_⟩
 have hh := h.2
 generalize (o.semAt F.round a.eval).run P w = r at *
 have lo : LetsOut Q1 → LetsOut Q := fun ⟨a, w, h⟩ => ⟨a, w, hq _ (by simp) _ _ h⟩
 cases r with
 | ok x w' =>
  cases x <;> simp only [Oper.uponIn] at hh ⊢ <;>
   first
    | exact hh
    | exact ⟨hh.1, CallsIn.mono hh.2 (fun e w'' he => by cases e <;> first | exact he | exact hq _ (by simp) _ _ he | exact lo he)⟩
    | exact ⟨hh.1, RoundIn.mono hh.2 (fun e w'' he => by cases e <;> first | exact he | exact hq _ (by simp) _ _ he | exact lo he)⟩
 | halt x w' => cases x <;> simp only [Oper.uponIn] at hh ⊢ <;> exact hq _ (by simp) _ _ hh
theorem ready_all {ops : Array Oper} {listed : Array Bool} (hsz : listed.size = ops.size) (hacy : ∀ i o', ops[i]? = some o' → ∀ e ∈ o'.after, Region.binds .any e = true → e.on < i)
  (h : Region.ready .any ops listed = []) : ∀ i, i < ops.size → listed.getD i false = true := by
 intro i
 induction i using Nat.strongRecOn with
 | _ i ih =>
  intro hi
  cases hl : listed.getD i false with
  | true => rfl
  | false =>
   exfalso
   have h1 : i ∈ Region.ready .any ops listed := by
    rw [mem_ready]
    have hi' : i < listed.size := by omega
    refine ⟨?_, ops[i], Array.getElem?_eq_getElem hi, fun e he hb => ?_⟩
    ·simpa [Array.getD_eq_getD_getElem?, Array.getElem?_eq_getElem hi'] using hl
    ·have := hacy i _ (Array.getElem?_eq_getElem hi) e he hb
     exact ih _ this (by omega)
   rw [h] at h1
   cases h1
theorem anyIn_last {F : Fence} {n : Nat} {Q1 Q : Exit → Act → World → Prop} {ops : Array Oper} {o : Oper} (hn : ∀ a w, Q1 .normal a w → wpOpIn F n P (ops.push o) Q ops.size (Q .normal) a w) (hq : ∀ e, e ≠ .normal → ∀ a w, Q1 e a w → Q e a w) (hlast : lastOK ops.size o ops.size = true) (hgd : gdOK ops = true) (hacy : ∀ i o', ops[i]? = some o' → ∀ e ∈ o'.after, Region.binds .any e = true → e.on < i) :
  ∀ (fuel : Nat) (listed : Array Bool) (a : Act) (w : World), (List.range ops.size).countP (fun k => listed.getD k false) + fuel = ops.size → listed.size = ops.size →
   wpAnyIn F n P .any ops Q1 fuel listed a w → wpAnyIn F n P .any (ops.push o) Q (fuel + 1) (listed.push false) a w := by
 have spec2 : (∀ k, k < ops.size → ∃ e ∈ o.after, Region.binds .any e = true ∧ e.on = k) ∧ ∀ e ∈ o.after, e.on < ops.size := by
  unfold lastOK at hlast
  simp only [Bool.and_eq_true, List.all_eq_true, List.mem_range, List.any_eq_true, Bool.or_eq_true, beq_iff_eq, decide_eq_true_eq] at hlast
  exact ⟨fun k hk => by obtain ⟨e, he, h1, h2⟩ := (hlast.1 k hk).resolve_left (by omega); exact ⟨e, by simpa using he, h1, h2⟩, fun e he => hlast.2 e (by simpa using he)⟩
 have at_lo : ∀ k, k < ops.size → (ops.push o)[k]? = ops[k]? := fun k hk => by rw [Array.getElem?_push, if_neg (by omega)]
 have at_o : (ops.push o)[ops.size]? = some o := by rw [Array.getElem?_push, if_pos rfl]
 have lp : ∀ (listed : Array Bool) k d, listed.size = ops.size → k < ops.size → (listed.push false).getD k d = listed.getD k false := by
  intro listed k d hs hk
  rw [Array.getD_eq_getD_getElem?, Array.getElem?_push, if_neg (by omega), Array.getD_eq_getD_getElem?, Array.getElem?_eq_getElem (by omega)]
  rfl
 have low : ∀ (listed : Array Bool) i, listed.size = ops.size → i < ops.size → (i ∈ Region.ready .any (ops.push o) (listed.push false) ↔ i ∈ Region.ready .any ops listed) := by
  intro listed i hs hi
  rw [mem_ready, mem_ready, at_lo i hi, lp _ _ _ hs hi]
  have h1 : listed.getD i true = listed.getD i false := by
   have hi' : i < listed.size := by omega
   simp [Array.getD_eq_getD_getElem?, Array.getElem?_eq_getElem hi']
  rw [h1]
  refine and_congr_right fun _ => exists_congr fun o' => and_congr_right fun ho' => forall_congr' fun e => forall_congr' fun he => forall_congr' fun hb => ?_
  have := hacy i o' ho' e he hb
  rw [lp _ _ _ hs (by omega)]
 have lastR : ∀ (listed : Array Bool), listed.size = ops.size → (ops.size ∈ Region.ready .any (ops.push o) (listed.push false) ↔ ∀ k, k < ops.size → listed.getD k false = true) := by
  intro listed hs
  rw [mem_ready]
  constructor
  ·rintro ⟨_, o', ho', h⟩ k hk
   rw [at_o] at ho'
   have e1 := Option.some.inj ho'
   subst e1
   obtain ⟨e, he, hb, rfl⟩ := spec2.1 k hk
   rw [← lp _ _ false hs hk]
   exact h e he hb
  ·intro h
   refine ⟨?_, o, at_o, fun e he hb => ?_⟩
   ·rw [Array.getD_eq_getD_getElem?, Array.getElem?_push, if_pos hs.symm]
    rfl
   ·rw [lp _ _ _ hs (spec2.2 e he)]
    exact h _ (spec2.2 e he)
 have inR : ∀ (listed : Array Bool) i, i ∈ Region.ready .any (ops.push o) listed → i < ops.size + 1 := by
  intro listed i hi
  rw [mem_ready] at hi
  obtain ⟨_, o', ho', _⟩ := hi
  have := (Array.getElem?_eq_some_iff.1 ho').1
  simpa using this
 have full : ∀ (listed : Array Bool), (∀ k, k < ops.size → listed.getD k false = true) → (List.range ops.size).countP (fun k => listed.getD k false) = ops.size := by
  intro listed h
  have := (List.countP_eq_length (p := fun k => listed.getD k false) (l := List.range ops.size)).2 (fun k hk => h k (List.mem_range.1 hk))
  simpa using this
 intro fuel
 induction fuel with
 | zero =>
  intro listed a w hcnt hs hw
  have hall : ∀ k, k < ops.size → listed.getD k false = true := fun k hk => (List.countP_eq_length (p := fun k => listed.getD k false) (l := List.range ops.size)).1 (by simpa using hcnt) k (List.mem_range.2 hk)
  have hin := (lastR listed hs).2 hall
  refine ⟨fun hr => by rw [hr] at hin; simp at hin, fun i hi => ?_⟩
  by_cases hil : i < ops.size
  ·have hi0 := hi
   rw [mem_ready, lp _ _ _ hs hil, hall i hil] at hi0
   cases hi0.1
  ·have e1 : i = ops.size := by have := inR _ _ hi; omega
   subst e1
   refine wpOpIn_mono (fun a' w' hq => ⟨?_, hq⟩) (hn _ _ hw.2)
   rw [List.eq_nil_iff_forall_not_mem]
   intro j hj
   have hj1 := inR _ _ hj
   rw [mem_ready] at hj
   have hj2 := hj.1
   by_cases hjl : j < ops.size
   ·rw [Array.getD_eq_getD_getElem?, Array.getElem?_setIfInBounds_ne (by omega), ← Array.getD_eq_getD_getElem?, lp _ _ _ hs hjl, hall j hjl] at hj2
    cases hj2
   ·have e2 : j = ops.size := by omega
    subst e2
    rw [Array.getD_eq_getD_getElem?, Array.getElem?_setIfInBounds_self_of_lt (by simp; omega)] at hj2
    cases hj2
 | succ fuel ih =>
  intro listed a w hcnt hs hw
  obtain ⟨h0, h1⟩ := hw
  have hno : ¬ ∀ k, k < ops.size → listed.getD k false = true := fun h => by
   have := full _ h
   omega
  refine ⟨fun hr => ?_, fun i hi => ?_⟩
  ·exfalso
   refine hno (ready_all hs hacy ?_)
   rw [List.eq_nil_iff_forall_not_mem]
   intro i hi
   have hil : i < ops.size := by
    rw [mem_ready] at hi
    obtain ⟨_, o', ho', _⟩ := hi
    exact (Array.getElem?_eq_some_iff.1 ho').1
   have := (low _ _ hs hil).2 hi
   rw [hr] at this
   simp at this
  ·by_cases hil : i < ops.size
   ·have hi0 := (low _ _ hs hil).1 hi
    have hw := h1 i hi0
    have hli : listed.getD i false = false := by
     have := (mem_ready.1 hi).1
     rw [lp _ _ _ hs hil] at this
     exact this
    have cnt1 : (List.range ops.size).countP (fun k => (listed.setIfInBounds i true).getD k false) + fuel = ops.size := by
     have hi' : i < listed.size := by omega
     have hS' : (fun k => (listed.setIfInBounds i true).getD k false) = fun k => if k = i then true else listed.getD k false := by
      funext k
      by_cases hk : k = i
      ·subst hk; simp [hi']
      ·rw [if_neg hk, getD_set_ne false (Ne.symm hk)]
     rw [hS', cnt_set _ i hli _ hil]; omega
    have hsp : (listed.push false).setIfInBounds i true = (listed.setIfInBounds i true).push false := by
     apply Array.ext
     ·simp
     ·intro j g1 g2
      simp only [Array.size_setIfInBounds, Array.size_push] at g1
      rw [Array.getElem_setIfInBounds (by simpa using g1), Array.getElem_push, Array.getElem_push]
      simp only [Array.size_setIfInBounds]
      by_cases hj : j < listed.size
      ·rw [dif_pos hj, dif_pos hj, Array.getElem_setIfInBounds hj]
      ·rw [dif_neg hj, dif_neg hj, if_neg (by omega)]
    rw [hsp]
    have nx : ∀ a' w', wpAnyIn F n P .any ops Q1 fuel (listed.setIfInBounds i true) a' w' → wpAnyIn F n P .any (ops.push o) Q (fuel + 1) ((listed.setIfInBounds i true).push false) a' w' :=
     fun a' w' h => ih _ a' w' cnt1 (by simpa using hs) h
    unfold wpOpIn at hw ⊢
    rw [at_lo i hil]
    cases hio : ops[i]? with
    | none => rw [hio] at hw; exact nx _ _ hw
    | some o' =>
     rw [hio] at hw
     simp only at hw ⊢
     have hy : Region.wanted o' (yielded (ops.push o) a.tmps) = Region.wanted o' (yielded ops a.tmps) := by
      unfold Region.wanted
      cases hg : o'.guard with
      | none => rfl
      | some jw =>
       obtain ⟨j, want⟩ := jw
       have hj : j < ops.size := by
        have h9 := List.all_eq_true.1 hgd o' (by simpa using Array.mem_of_getElem? hio)
        rw [hg] at h9
        simpa using h9
       simp only [yielded, at_lo j hj]
     rw [hy]
     split
     ·rename_i hw1
      rw [if_pos hw1] at hw
      exact wpIn_Qn hq (Oper.wpIn_mono nx hw)
     ·rename_i hw1
      rw [if_neg hw1] at hw
      exact ⟨hw.1, nx _ _ hw.2⟩
   ·have e1 : i = ops.size := by have := inR _ _ hi; omega
    subst e1
    exact absurd ((lastR listed hs).1 hi) hno
def lateB (lt : Nat) (ops ops3 : Array Oper) (o : Oper) : Bool := match ops[lt]? with
 | none => true
 | some p => (match p.op with | .extract (.tmp _) _ => true | _ => false) && p.guard.isNone && (match o.op with | .store _ _ _ => true | _ => false) && o.dst.isNone && (match p.dst with | some d => !(o.looksAt ops3).contains d | none => true)
theorem lateB_p {lt : Nat} {ops ops3 : Array Oper} {o : Oper} (h : lateB lt ops ops3 o = true) : ∀ p, ops[lt]? = some p → LateP ops3 p o := by
 intro p hp
 unfold lateB at h
 rw [hp] at h
 simp only [Bool.and_eq_true] at h
 obtain ⟨⟨⟨⟨h1, h2⟩, h3⟩, h4⟩, h5⟩ := h
 refine ⟨?_, by simpa using h2, ?_, by simpa using h4, fun d hd => ?_⟩
 ·split at h1
  ·exact ⟨_, _, by assumption⟩
  ·cases h1
 ·split at h3
  ·exact ⟨_, _, _, by assumption⟩
  ·cases h3
 ·rw [hd] at h5
  simpa using h5
end
end Go.Dm
end
