/- The data machine, second make, part J: regions in the text's order that lay and change own objects. -/
import Derived.Test.YtihkcegelghcpaaEnQ
import Derived.Test.YtihkcegelghcpaaEnI2
import Derived.Carry
set_option linter.unusedSimpArgs false
set_option linter.unusedVariables false
namespace Go.Dm

/-- the row that is appended to: its rows so far -/
def destOf (own : List Ent) (et k bs : Nat) : DVal → Option (Option Nat × List (List DVal))
  | .nilsl => some (none, [])
  | .osl id r => match findE own id with
    | some e => if e.r = r then (match e.obj with | .row et' k' bs' es => if et' = et ∧ k' = k ∧ bs' = bs then some (some id, es) else none | _ => none) else none
    | none => none
  | _ => none

/-- What an operation asks, the datum that it hands back, the own objects behind it. -/
structure ERes where
  pre : Prop
  d : DVal
  own : List Ent

section
variable (P : Program) (nt : Nat) (ow : List Nat)

/-- the operations that lay or change own objects ('ow': the slots of boxes that are own) -/
def isEff (o : Oper) : Bool := match o.op with
  | .box _ _ => match o.dst with | some i => ow.contains i | none => false
  | .buildSlice _ _ _ => match o.dst with | some i => ow.contains i | none => false
  | .alloc _ => true
  | .store _ _ _ => true
  | .makeMap _ _ => true
  | .mapUpdate _ _ _ _ => true
  | .makeSlice _ _ _ => true
  | .call c => match c.callee with | .builtin .append => true | .builtin .clear => true | .value _ => (match o.dst with | some i => ow.contains i | none => false) | _ => false
  | _ => false

def eAppend (own : List Ent) (dst : Option Nat) (r : Nat) : List DVal → List TypeId → Option ERes
  | [a, b], [t, t'] => match dst, tElem P t, tElemId P t with
    | some i, some (k, bs), some et => match destOf own et k bs a, rowsN own b with
      | some (id, es), some (k2, es2) => some ⟨t' = t ∧ zeroOK P t = true ∧ 0 < k ∧ (k2 = k ∨ es2 = []) ∧ (es.length + es2.length) * bs ≤ 140737488355328 ∧ es.length + es2.length ≤ 9223372036854775807,
          .osl (id.getD i) r, upE own (id.getD i) r (.row et k bs (es ++ es2))⟩
      | _, _ => none
    | _, _, _ => none
  | _, _ => none

/-- a store into an own row -/
def eStoreRow (own : List Ent) (dst : Option Nat) (t : TypeId) (d : DVal) (id r' k i j : Nat) : Option ERes := match findE own id with
  | some e => match e.obj with
    | .row et k' bs es => match es[i]? with
      | some c0 => some ⟨e.r = r' ∧ k' = k ∧ dst = none ∧ tCells P t = some (cellsD d).length ∧ plainD own d = true ∧ j + (cellsD d).length ≤ k, .any, upE own id r' (.row et k' bs (es.set i (splice c0 j (cellsD d))))⟩
      | none => none
    | _ => none
  | none => none

def eMake (own : List Ent) (dst : Option Nat) (r : Nat) (t : TypeId) (l c : DVal) : Option ERes := match dst, tElem P t, tElemId P t, tZeroE P t, l, c with
  | some i, some (k, bs), some et, some zs, .int _ n, .int _ m => some ⟨zs.all (oneO []) = true ∧ zs.length = k ∧ 0 ≤ n ∧ n ≤ m ∧ m * bs ≤ 140737488355328 ∧ m ≤ 9223372036854775807, .osl i r, upE own i r (.row et k bs (List.replicate n.toNat zs))⟩
  | _, _, _, _, _, _ => none

def eClear (own : List Ent) : List DVal → List TypeId → Option ERes
  | [d], [t] => match tElem P t, tZeroE P t with
    | some (k, _), some zs => match d with
      | .osl id r => match findE own id with
        | some e => match e.obj with
          | .row et k' bs es => some ⟨e.r = r ∧ k' = k ∧ zs.all (oneO []) = true ∧ zs.length = k ∧ 0 < k, .tup [], upE own id r (.row et k' bs (clearD es 0 es.length zs))⟩
          | _ => none
        | none => none
      | .vw id r k0 _ i m => match findE own id with
        | some e => match e.obj with
          | .row et k' bs es => some ⟨e.r = r ∧ k' = k ∧ k0 = k ∧ zs.all (oneO []) = true ∧ zs.length = k ∧ 0 < k ∧ i + m ≤ es.length, .tup [], upE own id r (.row et k' bs (clearD es i m zs))⟩
          | _ => none
        | none => none
      | _ => none
    | _, _ => none
  | _, _ => none

def eRes (o : Oper) (ed : Operand → DVal) (own : List Ent) (r : Nat) : Option ERes :=
  match o.op with
  | .box _ x => match o.dst with
    | some i => some ⟨plainD own (ed x) = true, .bx i r 0, upE own i r (.box (cellsD (ed x)))⟩
    | none => none
  | .buildSlice t len parts => match o.dst, tElem P t, tElemId P t with
    | some i, some (k, bs), some et => some ⟨nPre P own (ed) (.buildSlice t len parts), .osl i r, upE own i r (.row et k bs (parts.toList.map fun p => cellsD (ed p.2)))⟩
    | _, _, _ => none
  | .alloc t => match o.dst, tZero P t with
    | some i, some z => some ⟨z.all (oneO []) = true, .bx i r 0, upE own i r (.box z)⟩
    | _, _ => none
  | .store t a x => match ed a with
    | .bx id r' off => match findE own id with
      | some e => match e.obj with
        | .box cs => some ⟨e.r = r' ∧ o.dst = none ∧ tCells P t = some (cellsD (ed x)).length ∧ plainD own (ed x) = true ∧ off + (cellsD (ed x)).length ≤ cs.length, .any, upE own id r' (.box (splice cs off (cellsD (ed x))))⟩
        | _ => none
      | none => none
    | .rx id r' k i j => eStoreRow P own o.dst t (ed x) id r' k i j
    | _ => none
  | .makeSlice t l c => eMake P own o.dst r t (ed l) (ed c)
  | .makeMap t rv => match rv, o.dst, tMap P t with
    | none, some i, some _ => some ⟨True, .omp i r, upE own i r (.map [] [])⟩
    | _, _, _ => none
  | .mapUpdate t m k x => match ed m, tMap P t with
    | .omp id r', some (kt, _) => match findE own id with
      | some e => match e.obj with
        | .map ks vs => some ⟨e.r = r' ∧ o.dst = none ∧ keyOK P kt (ed k) = true ∧ ks.all (keyOK P kt) = true, .any, upE own id r' (.map (updK ks (ed k)) (updV ks vs (ed k) (ed x)))⟩
        | _ => none
      | none => none
    | _, _ => none
  | .call c => match c.callee with
    | .builtin .append => eAppend P own o.dst r (c.args.toList.map (ed)) c.argTypes.toList
    | .builtin .clear => eClear P own (c.args.toList.map (ed)) c.argTypes.toList
    | _ => none
  | _ => none

end

section
variable {P : Program} {B : Base} {s : DS} {a : Act} {w : World} {loc : Nat → Loc} {ow : List Nat}

theorem oneO_nil {own : List Ent} {d : DVal} (h : oneO [] d = true) : oneO own d = true := by
  cases d <;> simp_all [oneO, isCur, findE, rowsOf]

theorem wp_val {ro : Option Nat} {o : Oper} {v : Value} {w' : World} {next : Act → World → Prop} {Q : Exit → Act → World → Prop} (hd : ∀ c, o.op ≠ .defer c) (h : (execOp a.eval o).run P w = .ok (.value v) w') (hn : next (a.put o.dst v) w') : o.wpIn (wd ro) 0 P a w next Q := by
  refine ⟨fun _ _ => trivial, ?_⟩
  rw [Oper.semAt_eq _ _ _ hd, h, Oper.uponIn_value]
  exact hn
theorem wp_unit {ro : Option Nat} {o : Oper} {w' : World} {next : Act → World → Prop} {Q : Exit → Act → World → Prop} (hd : ∀ c, o.op ≠ .defer c) (h : (execOp a.eval o).run P w = .ok .skip w') (hn : next (a.put o.dst Go.undef) w') : o.wpIn (wd ro) 0 P a w next Q := by
  refine ⟨fun _ _ => trivial, ?_⟩
  rw [Oper.semAt_eq _ _ _ hd, h, Oper.uponIn_skip]
  exact hn

theorem e_wp {o : Oper} {r : Nat} {x : ERes} {ed : Operand → DVal} {next : Act → World → Prop} {Q : Exit → Act → World → Prop} (R : Rel B s a w loc) (hr : lim B s ≤ r) (hd : dstOK B.nt o.dst = true) (hed : ∀ x ∈ o.op.operands, Rds s loc B.M0 w (ed x) (a.eval x)) (hmd : ∀ x ∈ o.op.operands, mx (ed x) ≤ mxS s.slots) (h : eRes P o ed s.own r = some x) (hp : x.pre)
    (hn : ∀ a' w' loc', Rel B ⟨putS s.slots o.dst x.d, x.own⟩ a' w' loc' → next a' w') : o.wpIn (wd B.ro) 0 P a w next Q := by
  have hlim := hr
  unfold lim at hlim
  obtain ⟨dst, op, type, pos, after, guard⟩ := o
  simp only at hd hn ⊢
  unfold eRes at h
  simp only at h
  cases op <;> simp only [reduceCtorEq] at h
  case box t y =>
    cases dst with
    | none => simp at h
    | some i =>
      simp only [Option.some.injEq] at h
      subst h
      simp only at hp hn
      obtain ⟨h1, h2⟩ := cells_of R.st hp (hed y (by simp [Op.operands, Call.operands]))
      have := R.newBox (id := i) (n := r) (cs := cellsD (ed y)) (us := (a.eval y).cells.toList) (ty := t) (dst := some i) hr (by rw [mx_cellsD]; have := hmd y (by simp [Op.operands, Call.operands]); omega) (fun j hj => by simp only [Option.some.injEq] at hj; subst hj; simpa [dstOK] using hd) h1 h2
      have hrun : (execOp a.eval ⟨some i, .box t y, type, pos, after, guard⟩).run P w = .ok (.value (.pointer (some ⟨w.heap.size, 0, none⟩))) (w.alloc (.cells (a.eval y).cells.toList.toArray t)) := by
        simp [execOp, Instr.box, newVar, newRow]
      exact wp_val (fun c hc => by cases hc) hrun (hn _ _ _ this)
  case buildSlice t len parts =>
    split at h
    · rename_i i k bs et ht hte
      simp only [Option.some.injEq] at h
      subst h
      simp only at hp hn
      simp only [nPre, ht] at hp
      obtain ⟨h1, h2, h3, h4, h5, h6, h7⟩ := hp
      have hlen : parts.toList.length = len := by have := congrArg List.length h1; simpa using this
      obtain ⟨e, us, hu, hrun, hul, hrd⟩ := run_buildSlice (P := P) (M0 := B.M0) (vs := parts.map fun p => (p.1, a.eval p.2)) R.st ht h5 h2 h3 h4 (ds := parts.toList.map fun p => ed p.2) (by rw [Array.toList_map, List.map_map]; exact h1) (by simpa using hlen) (by simpa [List.all_map, Function.comp_def] using h6) (by
        intro i d q hd hq
        simp only [List.getElem?_map, Option.map_eq_some_iff, Array.toList_map] at hd hq
        obtain ⟨a', ha, rfl⟩ := hd
        obtain ⟨b, hb, rfl⟩ := hq
        rw [ha] at hb
        simp only [Option.some.injEq] at hb
        subst hb
        exact hed a'.2 (by simpa [Op.operands] using ⟨a'.1, by simpa using List.mem_of_getElem? ha⟩)) h7
      have hee : e = et := by unfold tElemId at hte; rw [hu] at hte; simpa using hte
      subst hee
      have hL : ∀ b0, b0 ∈ (⟨[w.heap.size], .slice (some ⟨w.heap.size, 0, none⟩) len len⟩ : Loc).blks → b0 < (w.alloc (.cells us.toArray e)).heap.size ∧ ((∃ e ∈ s.own, e.id = i ∧ b0 ∈ (loc i).blks) ∨ w.heap.size ≤ b0) := by
        intro b0 hb0
        simp only [List.mem_singleton] at hb0
        subst hb0
        exact ⟨by simp, .inr (Nat.le_refl _)⟩
      have hw := Upd.alloc (hotOf s.own loc) w (.cells us.toArray e)
      have hmx : mxR (parts.toList.map fun p => cellsD (ed p.2)) ≤ r := by
        refine mxR_le' fun cs hm => ?_
        obtain ⟨p, hp, rfl⟩ := List.mem_map.1 hm
        rw [mx_cellsD]
        have := hmd p.2 (by simpa [Op.operands] using ⟨p.1, by simpa using hp⟩)
        omega
      have W := R.weakUp (obj := .row e k bs (parts.toList.map fun p => cellsD (ed p.2))) (r := r) hr hw hL (.inl (Nat.le_refl _))
      have R' := R.up (id := i) (r := r) (obj := .row e k bs (parts.toList.map fun p => cellsD (ed p.2))) (L := ⟨[w.heap.size], .slice (some ⟨w.heap.size, 0, none⟩) len len⟩) (v := .slice (some ⟨w.heap.size, 0, none⟩) len len) (d := .osl i r) (dst := some i) hr
        (fun j hj => by simp only [Option.some.injEq] at hj; subst hj; simpa [dstOK] using hd) hw (fun b hb _ => by simp only [World.alloc, Array.getElem?_push]; rw [if_neg (by omega)]) hL (.inl (Nat.le_refl _))
        ⟨by simpa [hlen] using h3, .inr ⟨w.heap.size, us.toArray, len, rfl, by simp [hlen], heap_alloc_new w _, by simp [hlen], by unfold maxLen; omega, by simp [hul], rdR_weak W k _ _ 0 hmx (by simpa [List.map_map, Function.comp_def] using hrd)⟩⟩
        (by
          simp only [rd]
          intro l hl
          rw [curOf_up] at hl
          simp only [Option.some.injEq] at hl
          rw [← hl])
      have hrun' : (execOp a.eval ⟨some i, .buildSlice t len parts, type, pos, after, guard⟩).run P w = .ok (.value (.slice (some ⟨w.heap.size, 0, none⟩) len len)) (w.alloc (.cells us.toArray e)) := by
        simp [execOp, hrun]
      exact wp_val (fun c hc => by cases hc) hrun' (hn _ _ _ R')
    · simp at h
  case alloc t =>
    cases dst with
    | none => simp at h
    | some i =>
      split at h
      · rename_i z hi hz
        simp only [Option.some.injEq] at h hi
        subst h; subst hi
        simp only at hp hn
        obtain ⟨zv, hzr, rfl⟩ := tZero_ok (w := w) hz
        have hus : rdV (cu s loc) (hm s loc B.M0) w.heap (zv.cells.toList.map ofV1) zv.cells.toList := rdV_map_ofV1 _
        have hmx : mxL (zv.cells.toList.map ofV1) = 0 := by
          have h1 : ∀ v, mx (ofV1 v) = 0 := by
            intro v
            unfold ofV1
            split <;> (try split) <;> simp [mx]
          generalize zv.cells.toList = l
          induction l with
          | nil => simp [mxL]
          | cons v l ih => simp [mxL, h1, ih]
        have hone := oneO_all R.st (zv.cells.toList.map ofV1) zv.cells.toList (List.all_eq_true.2 fun d hd => oneO_nil (List.all_eq_true.1 hp d hd)) hus
        have := R.newBox (id := i) (n := r) (cs := zv.cells.toList.map ofV1) (us := zv.cells.toList) (ty := t) (dst := some i) hr (by omega) (fun j hj => by simp only [Option.some.injEq] at hj; subst hj; simpa [dstOK] using hd) hus hone
        have hrun : (execOp a.eval ⟨some i, .alloc t, type, pos, after, guard⟩).run P w = .ok (.value (.pointer (some ⟨w.heap.size, 0, none⟩))) (w.alloc (.cells zv.cells.toList.toArray t)) := by
          simp [execOp, Instr.alloc, hzr, newVar, newRow]
        exact wp_val (fun c hc => by cases hc) hrun (hn _ _ _ this)
      · simp at h
  case store t ad y =>
    split at h
    · rename_i id r' off had
      split at h
      · rename_i e he
        split at h
        · rename_i cs hob
          simp only [Option.some.injEq] at h
          subst h
          simp only at hp hn
          obtain ⟨her, rfl, hc, hpl, hfit⟩ := hp
          have ha := hed ad (by simp [Op.operands, Call.operands])
          rw [had] at ha
          obtain ⟨w', hrun, R'⟩ := R.storeBox (P := P) (t := t) (n := r) he her hob ha (hed y (by simp [Op.operands, Call.operands])) hpl hc hfit (hmd y (by simp [Op.operands, Call.operands])) hr
          have hrun' : (execOp a.eval ⟨none, .store t ad y, type, pos, after, guard⟩).run P w = .ok .skip w' := by
            simp [execOp, hrun]
          exact wp_unit (fun c hc => by cases hc) hrun' (hn _ _ _ R')
        · simp at h
      · simp at h
    · rename_i id r' k i j had
      unfold eStoreRow at h
      split at h
      · rename_i e he
        split at h
        · rename_i et k' bs es hob
          split at h
          · rename_i c0 hc0
            simp only [Option.some.injEq] at h
            subst h
            simp only at hp hn
            obtain ⟨her, rfl, rfl, hc, hpl, hfit⟩ := hp
            have ha := hed ad (by simp [Op.operands, Call.operands])
            rw [had] at ha
            obtain ⟨w', hrun, R'⟩ := R.storeRow (P := P) (t := t) (n := r) he her hob ha (hed y (by simp [Op.operands, Call.operands])) hpl hc hc0 hfit (hmd y (by simp [Op.operands, Call.operands])) hr
            have hrun' : (execOp a.eval ⟨none, .store t ad y, type, pos, after, guard⟩).run P w = .ok .skip w' := by
              simp [execOp, hrun]
            exact wp_unit (fun c hc => by cases hc) hrun' (hn _ _ _ R')
          · simp at h
        · simp at h
      · simp at h
    · simp at h
  case makeSlice t lo co =>
    unfold eMake at h
    split at h
    · rename_i i k bs et zs kl n kc m ht hte hz hl hc
      simp only [Option.some.injEq] at h
      subst h
      simp only at hp hn
      obtain ⟨h1, h2, h3, h4, h5, h6⟩ := hp
      have rl := hed lo (by simp [Op.operands, Call.operands])
      have rc := hed co (by simp [Op.operands, Call.operands])
      rw [hl] at rl
      rw [hc] at rc
      simp only [rd] at rl rc
      obtain ⟨v', w', L, hrun, R'⟩ := R.makeRow (P := P) (id := i) (n := r) (kl := kl) (kc := kc) (dst := some i) hr (fun j hj => by simp only [Option.some.injEq] at hj; subst hj; simpa [dstOK] using hd) ht hte hz h1 h2 h3 h4 h5 h6
      have hrun' : (execOp a.eval ⟨some i, .makeSlice t lo co, type, pos, after, guard⟩).run P w = .ok (.value v') w' := by
        simp [execOp, rl.1, rc.1, hrun]
      exact wp_val (fun c hc => by cases hc) hrun' (hn _ _ _ R')
    · simp at h
  case makeMap t rv =>
    split at h
    · rename_i i kte ht
      simp only [Option.some.injEq] at h
      subst h
      simp only at hp hn
      have := R.newMap (id := i) (n := r) (dst := some i) hr (fun j hj => by simp only [Option.some.injEq] at hj; subst hj; simpa [dstOK] using hd)
      have hrun : (execOp a.eval ⟨some i, .makeMap t none, type, pos, after, guard⟩).run P w = .ok (.value (.map (some w.heap.size))) (w.alloc (.map #[] 0)) := by
        simp [execOp, RowKit.run_makeMap]
      exact wp_val (fun c hc => by cases hc) hrun (hn _ _ _ this)
    · simp at h
  case mapUpdate t m k x =>
    split at h
    · rename_i id r' kt et hm ht
      split at h
      · rename_i e he
        split at h
        · rename_i ks vs hob
          simp only [Option.some.injEq] at h
          subst h
          simp only at hp hn
          obtain ⟨her, rfl, hk, hks⟩ := hp
          have ha := hed m (by simp [Op.operands, Call.operands])
          rw [hm] at ha
          obtain ⟨w', hrun, R'⟩ := R.updMap (P := P) (t := t) (n := r) he her hob ha (hed k (by simp [Op.operands, Call.operands])) (hed x (by simp [Op.operands, Call.operands])) ht hk hks (hmd k (by simp [Op.operands, Call.operands])) (hmd x (by simp [Op.operands, Call.operands])) hr
          have hrun' : (execOp a.eval ⟨none, .mapUpdate t m k x, type, pos, after, guard⟩).run P w = .ok .skip w' := by
            simp [execOp, hrun]
          exact wp_unit (fun c hc => by cases hc) hrun' (hn _ _ _ R')
        · simp at h
      · simp at h
    · simp at h
  case call c =>
    obtain ⟨cal, args, ats⟩ := c
    cases cal <;> simp only [reduceCtorEq] at h
    rename_i b
    cases b <;> simp only [reduceCtorEq] at h
    obtain ⟨al⟩ := args
    obtain ⟨tl⟩ := ats
    case append =>
      unfold eAppend at h
      split at h
      · rename_i da db t t' hargs hts
        split at h
        · rename_i i k bs et ht hte
          split at h
          · rename_i id es k2 es2 hdest hsrc
            simp only [Option.some.injEq] at h
            subst h
            simp only at hp hn
            obtain ⟨rfl, hz, hk, hk2, hb, hl⟩ := hp
            match al, hargs with
            | [xa, xb], hargs =>
              simp only [List.map_cons, List.map_nil, List.cons.injEq, and_true] at hargs
              obtain ⟨hxa, hxb⟩ := hargs
              subst hts
              have ra := hed xa (by simp [Op.operands, Call.operands])
              have rb := hed xb (by simp [Op.operands, Call.operands])
              rw [hxa] at ra
              rw [hxb] at rb
              have ma := hmd xa (by simp [Op.operands, Call.operands])
              have mb := hmd xb (by simp [Op.operands, Call.operands])
              rw [hxa] at ma
              rw [hxb] at mb
              have hrow : RowAt s loc w B.M0 (id.getD i) et k bs es (a.eval xa) ∧ mxR es ≤ r := by
                unfold destOf at hdest
                split at hdest
                · simp only [Option.some.injEq, Prod.mk.injEq] at hdest
                  obtain ⟨rfl, rfl⟩ := hdest
                  simp only [Rds, rd] at ra
                  exact ⟨.inl ⟨rfl, ra⟩, by simp [mxR]⟩
                · rename_i id' r'
                  split at hdest
                  · rename_i e0 he0
                    split at hdest
                    · rename_i her
                      split at hdest
                      · rename_i et' k' bs' es' hob
                        split at hdest
                        · rename_i heq
                          obtain ⟨rfl, rfl, rfl⟩ := heq
                          simp only [Option.some.injEq, Prod.mk.injEq] at hdest
                          obtain ⟨rfl, rfl⟩ := hdest
                          refine ⟨rowAt_osl R.st he0 her hob ra, ?_⟩
                          have := (mem_mxE (findE_ent he0).1).2
                          rw [hob] at this
                          simp only [mxO] at this
                          omega
                        · simp at hdest
                      · simp at hdest
                    · simp at hdest
                  · simp at hdest
                · simp at hdest
              have hmx2 : mxR es2 ≤ r := by
                unfold rowsN at hsrc
                split at hsrc
                · simp only [Option.some.injEq, Prod.mk.injEq] at hsrc
                  obtain ⟨_, rfl⟩ := hsrc
                  simp [mxR]
                · simp only [Option.some.injEq, Prod.mk.injEq] at hsrc
                  obtain ⟨_, rfl⟩ := hsrc
                  simp [mxR]
                · rw [Option.map_eq_some_iff] at hsrc
                  obtain ⟨⟨k', b', es'⟩, h1, h2⟩ := hsrc
                  simp only [Prod.mk.injEq] at h2
                  obtain ⟨_, rfl⟩ := h2
                  have := rowsOf_mx h1
                  omega
              obtain ⟨v', w', L, hrun, R'⟩ := R.append (P := P) (ty := type) (id := id.getD i) (n := r) (dst := some i) hr (fun j hj => by simp only [Option.some.injEq] at hj; subst hj; simpa [dstOK] using hd) ht hte hz hk hrow.1 hrow.2 rb hsrc hk2 hmx2 hb (by unfold maxLen; omega)
              have hrun' : (execOp a.eval ⟨some i, .call { callee := .builtin .append, args := ⟨[xa, xb]⟩, argTypes := ⟨[t', t']⟩ }, type, pos, after, guard⟩).run P w = .ok (.value v') w' := by
                simp only [execOp, resolve, Sem.run_bind, List.map_toArray, List.map_cons, List.map_nil, Sem.run_pure, Result.andThen_ok, invoke, builtin, hrun]
              exact wp_val (fun c hc => by cases hc) hrun' (hn _ _ _ R')
          · simp at h
        · simp at h
      · simp at h
    case clear =>
      obtain ⟨al⟩ := args
      obtain ⟨tl⟩ := ats
      have main : ∀ {w' : World} {own' : List Ent} {loc' : Nat → Loc} {xa : Operand} {t : TypeId}, al = [xa] → tl = [t] → (Builtin.clear_ #[t] type #[a.eval xa]).run P w = .ok (.tuple #[]) w' → Rel B ⟨putS s.slots dst (.tup []), own'⟩ (a.put dst (.tuple #[])) w' loc' → x.d = .tup [] → x.own = own' →
          (Oper.mk dst (.call { callee := .builtin .clear, args := ⟨al⟩, argTypes := ⟨tl⟩ }) type pos after guard).wpIn (wd B.ro) 0 P a w next Q := by
        intro w' own' loc' xa t hal htl hrun R' hxd hxo
        subst hal; subst htl
        rw [hxd, hxo] at hn
        have hrun' : (execOp a.eval ⟨dst, .call { callee := .builtin .clear, args := ⟨[xa]⟩, argTypes := ⟨[t]⟩ }, type, pos, after, guard⟩).run P w = .ok (.value (.tuple #[])) w' := by
          simp only [execOp, resolve, Sem.run_bind, List.map_toArray, List.map_cons, List.map_nil, Sem.run_pure, Result.andThen_ok, invoke, builtin, hrun]
        exact wp_val (fun c hc => by cases hc) hrun' (hn _ _ _ R')
      unfold eClear at h
      split at h
      · rename_i d t hargs hts
        subst hts
        match al, hargs with
        | [xa], hargs =>
          simp only [List.map_cons, List.map_nil, List.cons.injEq, and_true] at hargs
          have ra := hed xa (by simp [Op.operands, Call.operands])
          rw [hargs] at ra
          split at h
          · rename_i k bs0 zs ht hz
            split at h
            · rename_i id r' 
              split at h
              · rename_i e he
                split at h
                · rename_i et k' bs es hob
                  simp only [Option.some.injEq] at h
                  subst h
                  simp only at hp
                  obtain ⟨her, rfl, h1, h2, h3⟩ := hp
                  obtain ⟨w', hrun, R'⟩ := R.clearRow (P := P) (t := t) (ty := type) (n := r) (k0 := bs0) (bs0 := 0) (e' := 0) (dst := dst) he her hob ra (.inl ⟨rfl, rfl, rfl⟩) (by simp) ht hz h1 h2 h3 hr (fun j hj => by subst hj; simpa [dstOK] using hd)
                  exact main rfl rfl hrun R' rfl rfl
                · simp at h
              · simp at h
            · rename_i id r' k0 bs1 i m _
              split at h
              · rename_i e he
                split at h
                · rename_i et k' bs es hob
                  simp only [Option.some.injEq] at h
                  subst h
                  simp only at hp
                  obtain ⟨her, rfl, rfl, h1, h2, h3, h4⟩ := hp
                  obtain ⟨w', hrun, R'⟩ := R.clearRow (P := P) (t := t) (ty := type) (n := r) (k0 := bs0) (bs0 := bs1) (e' := 0) (dst := dst) he her hob ra (.inr rfl) h4 ht hz h1 h2 h3 hr (fun j hj => by subst hj; simpa [dstOK] using hd)
                  exact main rfl rfl hrun R' rfl rfl
                · simp at h
              · simp at h
            · simp at h
          · simp at h
      · simp at h


/-- what a yield function's value leads to -/
def yH (l : Nat) : Abs where
  J := fun _ bl hd _ => bl = [] ∧ hd = .func (.yield l) #[] #[]
  weak := fun _ _ _ _ _ _ _ _ _ h => h
  one := by rintro _ _ _ _ ⟨_, rfl⟩; exact ⟨rfl, rfl⟩
  nd := by rintro _ _ _ _ ⟨rfl, _⟩ b hb; cases hb
/-- A round of a range over a function: the loop l, in a state A, called with these, answers b and goes over into A'. -/
def YAt (P : Program) (l : Nat) (A : Abs) (args : List DVal) (b : Bool) (A' : Abs) : Prop :=
  ∀ (M bl : List Nat) (hd : Value) (w : World) (vs : Array Value), bl.Nodup → (∀ q ∈ bl, q ∈ M) → (∀ q ∈ M, q < w.heap.size) → A.J M bl hd w.heap → rdV (fun _ _ => none) M w.heap args vs.toList →
    FCalls P (.yield l) vs w fun v w' => v = .bool b ∧ ∃ bl', Upd bl w w' ∧ bl'.Nodup ∧ (∀ q ∈ bl', q < w'.heap.size ∧ (q ∈ bl ∨ w.heap.size ≤ q)) ∧
      ∀ M', (∀ q ∈ M', q ∈ bl' ∨ (q ∈ M ∧ q ∉ bl)) → A'.J M' bl' hd w'.heap
/-- an own object is called -/
def pkOf (ed : Operand → DVal) (c : Call) : Option (Nat × Nat × List DVal) := match c.callee with
  | .value f => match ed f with | .pk id r => some (id, r, c.args.toList.map ed) | _ => none
  | _ => none

/-- What an operation with an effect hands back, and leaves: one of the machine's own; a call under a contract; a round. -/
def EOut (P : Program) (o : Oper) (ed : Operand → DVal) (own : List Ent) (r : Nat) (d : DVal) (own' : List Ent) : Prop :=
  (∃ x, eRes P o ed own r = some x ∧ x.pre ∧ d = x.d ∧ own' = x.own) ∨ (∃ c g args, o.op = .call c ∧ callee ed c = some (g, args) ∧ SpecAt P (.func g) args own r d own') ∨
    (∃ c id r' args e0 l e A A' b, o.op = .call c ∧ pkOf ed c = some (id, r', args) ∧ findE own id = some e0 ∧ e0.r = r' ∧ e0.obj = .abs (yH l) ∧ findE own (id + 1) = some e ∧ e.obj = .abs A ∧ mxL args = 0 ∧ YAt P l A args b A' ∧ d = .bool b ∧ own' = upE own (id + 1) r (.abs A'))

def effE (P : Program) (o : Oper) (ed : Operand → DVal) (own : List Ent) (K : ContE) : Prop := ∀ r, match eRes P o ed own r with | some x => x.pre ∧ K.f x.d x.own | none => False
def callS (P : Program) (g : FuncId) (args : List DVal) (own : List Ent) (K : ContE) : Prop := ∀ r, ∃ d own', SpecAt P (.func g) args own r d own' ∧ K.f d own'
def callY (P : Program) (id r' : Nat) (args : List DVal) (own : List Ent) (K : ContE) : Prop := ∃ e0 l e A A' b, findE own id = some e0 ∧ e0.r = r' ∧ e0.obj = .abs (yH l) ∧ findE own (id + 1) = some e ∧ e.obj = .abs A ∧ mxL args = 0 ∧ YAt P l A args b A' ∧ ∀ r, K.f (.bool b) (upE own (id + 1) r (.abs A'))
def effX (P : Program) (o : Oper) (ed : Operand → DVal) (own : List Ent) (K : ContE) : Prop := match o.op with
  | .call c => match callee ed c with
    | some (g, args) => callS P g args own K
    | none => match pkOf ed c with
      | some (id, r', args) => callY P id r' args own K
      | none => effE P o ed own K
  | _ => effE P o ed own K

theorem effE_out {P : Program} {o : Oper} {ed : Operand → DVal} {own : List Ent} {K : ContE} (h : effE P o ed own K) (r : Nat) : ∃ d own', EOut P o ed own r d own' ∧ K.f d own' := by
  have h1 := h r
  split at h1
  · rename_i x hx
    exact ⟨x.d, x.own, .inl ⟨x, hx, h1.1, rfl, rfl⟩, h1.2⟩
  · exact h1.elim
theorem effX_out {P : Program} {o : Oper} {ed : Operand → DVal} {own : List Ent} {K : ContE} (h : effX P o ed own K) (r : Nat) : ∃ d own', EOut P o ed own r d own' ∧ K.f d own' := by
  unfold effX at h
  split at h
  · rename_i c hop
    split at h
    · rename_i g args hc
      obtain ⟨d, own', h1, h2⟩ := h r
      exact ⟨d, own', .inr (.inl ⟨c, g, args, hop, hc, h1⟩), h2⟩
    · split at h
      · rename_i id r' args hp
        obtain ⟨e0, l, e, A, A', b, h1, h2, h3, h4, h5, h6, h7, h8⟩ := h
        exact ⟨_, _, .inr (.inr ⟨c, id, r', args, e0, l, e, A, A', b, hop, hp, h1, h2, h3, h4, h5, h6, h7, rfl, rfl⟩), h8 r⟩
      · exact effE_out h r
  · exact effE_out h r

/-- a call under a contract -/
theorem spec_wp {o : Oper} {c : Call} {g : FuncId} {args : List DVal} {r : Nat} {d : DVal} {own' : List Ent} {ed : Operand → DVal} {next : Act → World → Prop} {Q : Exit → Act → World → Prop} (R : Rel B s a w loc) (hr : lim B s ≤ r) (hd : dstOK B.nt o.dst = true) (ho : o.op = .call c)
    (hed : ∀ x ∈ o.op.operands, Rds s loc B.M0 w (ed x) (a.eval x)) (hc : callee ed c = some (g, args)) (hS : SpecAt P (.func g) args s.own r d own')
    (hn : ∀ a' w' loc', Rel B ⟨putS s.slots o.dst d, own'⟩ a' w' loc' → next a' w') : o.wpIn (wd B.ro) 0 P a w next Q := by
  have hlim := hr
  unfold lim at hlim
  obtain ⟨hE, _, _, hS⟩ := hS
  obtain ⟨vs, h1, h2⟩ := run_call (P := P) (ρ := a.eval) (M0 := B.M0) ho (fun x hx => hed x (by rw [ho]; exact hx)) hc hE
  refine ⟨fun _ _ => trivial, ?_⟩
  rw [Oper.semAt_eq _ _ _ (fun c' hc' => by rw [ho] at hc'; cases hc'), h1, Oper.uponIn_enter]
  refine ⟨fun h => by simp [wd] at h, calls_wd B.ro _ ?_⟩
  refine ((hS B.M0 w loc vs (by omega) R.st h2).2).mono ?_
  rintro e w' ⟨v, rfl, loc', S', hu, hnew, hver, hrd⟩
  exact hn _ _ loc' (R.step (n := r) (by omega) (by omega) (dst_lt hd) S' hu hnew hver hrd)

theorem round_wd {P : Program} {l : Nat} {fn : FuncId} {tmps : Array Value} {assign body : Code} {w : World} {R : Ending → World → Prop} (ro : Option Nat) (h : RoundIn (wd none) 0 P l fn tmps assign body w R) : RoundIn (wd ro) 0 P l fn tmps assign body w R := h

/-- a round -/
theorem yield_wp {o : Oper} {c : Call} {id r' n l : Nat} {args : List DVal} {e0 e : Ent} {A A' : Abs} {b : Bool} {ed : Operand → DVal} {next : Act → World → Prop} {Q : Exit → Act → World → Prop} (R : Rel B s a w loc) (hr : lim B s ≤ n) (hd : dstOK B.nt o.dst = true) (ho : o.op = .call c)
    (hed : ∀ x ∈ o.op.operands, Rds s loc B.M0 w (ed x) (a.eval x)) (hc : pkOf ed c = some (id, r', args)) (he0 : findE s.own id = some e0) (her : e0.r = r') (hob0 : e0.obj = .abs (yH l)) (he : findE s.own (id + 1) = some e) (hob : e.obj = .abs A) (hm0 : mxL args = 0) (hY : YAt P l A args b A')
    (hn : ∀ a' w' loc', Rel B ⟨putS s.slots o.dst (.bool b), upE s.own (id + 1) n (.abs A')⟩ a' w' loc' → next a' w') : o.wpIn (wd B.ro) 0 P a w next Q := by
  obtain ⟨dst, op, type, pos, after, guard⟩ := o
  simp only at ho
  subst ho
  obtain ⟨cal, as, ats⟩ := c
  unfold pkOf at hc
  cases cal with
  | builtin _ => simp at hc
  | invoke _ _ => simp at hc
  | value f =>
    simp only at hc
    split at hc
    rotate_left
    · simp at hc
    rename_i id0 r0 hf
    simp only [Option.some.injEq, Prod.mk.injEq] at hc
    obtain ⟨rfl, rfl, rfl⟩ := hc
    obtain ⟨hmem0, hid0⟩ := findE_ent he0
    obtain ⟨hmem, hid⟩ := findE_ent he
    have hcur : curOf s.own loc id0 r0 = some (loc id0) := by unfold curOf; rw [he0]; simp [her]
    have hx := hed f (by simp [Op.operands, Call.operands])
    rw [hf] at hx
    simp only [Rds, rd] at hx
    have hv := hx _ hcur
    have hk0 := R.st.ok e0 hmem0
    rw [hob0, hid0] at hk0
    have hl : (loc id0).hdr = .func (.yield l) #[] #[] := hk0.2
    have hk := R.st.ok e hmem
    rw [hob, hid] at hk
    have hrd : rdV (fun _ _ => none) (hotOf s.own loc ++ B.M0) w.heap (as.toList.map ed) (as.toList.map a.eval) := by
      have key : ∀ l : List Operand, (∀ x ∈ l, x ∈ as.toList) → rdV (cu s loc) (hm s loc B.M0) w.heap (l.map ed) (l.map a.eval) := by
        intro l
        induction l with
        | nil => intro _; simp [rdV]
        | cons x l ih =>
          intro hl
          simp only [List.map_cons, rdV]
          exact ⟨_, _, rfl, hed x (by have := hl x List.mem_cons_self; simp [Op.operands, Call.operands]; simp at this; exact .inr this), ih fun y hy => hl y (List.mem_cons_of_mem _ hy)⟩
      exact rdV_weak (n := 0) ⟨fun _ _ _ h => by omega, fun b o _ (_ : isD o = true) ho => ho, fun b o hb (_ : isD o = true) _ => hb⟩ _ _ (Nat.le_of_eq hm0) (key _ (fun _ h => h))
    have hF := hY (hotOf s.own loc ++ B.M0) (loc (id0 + 1)).blks (loc (id0 + 1)).hdr w (as.map a.eval) (by have := blks_nodup R.st.bl e hmem; rwa [hid] at this) (fun q hq => List.mem_append_left _ (mem_hot hmem (by rw [hid]; exact hq))) R.st.lt hk (by simpa using hrd)
    obtain ⟨fn, tmps, assign, body, hrun, hround⟩ := hF
    refine ⟨fun _ _ => trivial, ?_⟩
    have hex : (execOp a.eval ⟨dst, .call { callee := .value f, args := as, argTypes := ats }, type, pos, after, guard⟩).run P w = .ok (.round l fn tmps assign body) w := by
      simp only [execOp, resolve, hv, hl, Deferred.ofValue, Sem.run_bind, Sem.run_pure, Result.andThen_ok, invoke]
      simpa using hrun
    rw [Oper.semAt_eq _ _ _ (fun c' hc' => by simp at hc'), hex, Oper.uponIn_round]
    refine ⟨fun h => by simp [wd] at h, (round_wd B.ro hround).mono ?_⟩
    rintro e1 w' ⟨v, rfl, rfl, bl', hu, hnd, hbl, hJ⟩
    have hL : ∀ b0, b0 ∈ (⟨bl', (loc (id0 + 1)).hdr⟩ : Loc).blks → b0 < w'.heap.size ∧ ((∃ e ∈ s.own, e.id = id0 + 1 ∧ b0 ∈ (loc (id0 + 1)).blks) ∨ w.heap.size ≤ b0) := fun b0 hb0 =>
      ⟨(hbl b0 hb0).1, (hbl b0 hb0).2.imp (fun h => ⟨e, hmem, hid, h⟩) id⟩
    have hu' : Upd (hotOf s.own loc) w w' := ⟨hu.os, hu.tape, hu.output, hu.drawn, hu.size, fun q hq hn' => hu.blk q hq (fun h => hn' (mem_hot hmem (by rw [hid]; exact h)))⟩
    refine hn _ _ _ (R.up (id := id0 + 1) (r := n) (obj := .abs A') (L := ⟨bl', (loc (id0 + 1)).hdr⟩) (v := .bool b) (d := .bool b) (dst := dst) hr (fun j hj => by subst hj; simpa [dstOK] using hd) hu' (fun q hq hne => hu.blk q hq (hne e hmem hid)) hL (.inl (Nat.le_refl _)) (hJ _ ?_) (by simp [rd]) hnd)
    intro q hq
    rcases List.mem_append.1 hq with hq | hq
    · unfold upE at hq
      rw [hot_cons, hot_delE] at hq
      rcases List.mem_append.1 hq with hq | hq
      · simp only [upL, if_true] at hq; exact .inl hq
      · obtain ⟨e2, he2, hne, hb2⟩ := hot_sub hq
        refine .inr ⟨List.mem_append_left _ (mem_hot he2 hb2), fun hb3 => ?_⟩
        have := hot_inj R.st.bl e2 he2 e hmem q hb2 (by rw [hid]; exact hb3)
        subst this
        exact hne hid
    · exact .inr ⟨List.mem_append_right _ hq, fun hb3 => R.st.ap q (mem_hot hmem (by rw [hid]; exact hb3)) hq⟩
theorem eo_wp {o : Oper} {r : Nat} {d : DVal} {own' : List Ent} {ed : Operand → DVal} {next : Act → World → Prop} {Q : Exit → Act → World → Prop} (R : Rel B s a w loc) (hr : lim B s ≤ r) (hd : dstOK B.nt o.dst = true) (hed : ∀ x ∈ o.op.operands, Rds s loc B.M0 w (ed x) (a.eval x)) (hmd : ∀ x ∈ o.op.operands, mx (ed x) ≤ mxS s.slots) (h : EOut P o ed s.own r d own')
    (hn : ∀ a' w' loc', Rel B ⟨putS s.slots o.dst d, own'⟩ a' w' loc' → next a' w') : o.wpIn (wd B.ro) 0 P a w next Q := by
  rcases h with ⟨x, hx, hp, rfl, rfl⟩ | ⟨c, g, args, hop, hc, hS⟩ | ⟨c, id, r', args, e0, l, e, A, A', b, hop, hc, he0, her, hob0, he, hob, hm0, hY, rfl, rfl⟩
  · exact e_wp R hr hd hed hmd hx hp hn
  · exact spec_wp R hr hd hop hed hc hS hn
  · exact yield_wp R hr hd hop hed hc he0 her hob0 he hob hm0 hY hn

end

end Go.Dm
