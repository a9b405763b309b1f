/- The data machine, second make, part J: regions in the text's order that lay and change own objects. -/
import Derived.Test.YtihkcegelghcpaaEnI
set_option linter.unusedSimpArgs false
set_option linter.unusedVariables false
namespace Go.Dm

/-- the row that is appended to: its rows so far -/
def destOf (own : List Ent) (et k bs : Nat) : DVal → Option (Option Nat × List (List DVal))
  | .nilsl => some (none, [])
  | .osl id r => match findE own id with
    | some e => if e.r = r then (match e.obj with | .row et' k' bs' es => if et' = et ∧ k' = k ∧ bs' = bs then some (some id, es) else none | _ => none) else none
    | none => none
  | _ => none

/-- What an operation asks, the datum that it hands back, the own objects behind it. -/
structure ERes where
  pre : Prop
  d : DVal
  own : List Ent

section
variable (P : Program) (nt : Nat) (ow : List Nat)

/-- the operations that lay or change own objects ('ow': the slots of boxes that are own) -/
def isEff (o : Oper) : Bool := match o.op with
  | .box _ _ => match o.dst with | some i => ow.contains i | none => false
  | .buildSlice _ _ _ => match o.dst with | some i => ow.contains i | none => false
  | .alloc _ => true
  | .store _ _ _ => true
  | .call c => match c.callee with | .builtin .append => true | _ => false
  | _ => false

def eAppend (own : List Ent) (dst : Option Nat) (r : Nat) : List DVal → List TypeId → Option ERes
  | [a, b], [t, t'] => match dst, tElem P t, tElemId P t with
    | some i, some (k, bs), some et => match destOf own et k bs a, rowsN own b with
      | some (id, es), some (k2, es2) => some ⟨t' = t ∧ zeroOK P t = true ∧ 0 < k ∧ (k2 = k ∨ es2 = []) ∧ (es.length + es2.length) * bs ≤ 140737488355328 ∧ es.length + es2.length ≤ 9223372036854775807,
          .osl (id.getD i) r, upE own (id.getD i) r (.row et k bs (es ++ es2))⟩
      | _, _ => none
    | _, _, _ => none
  | _, _ => none

def eRes (o : Oper) (sl : List (Nat × DVal)) (own : List Ent) (r : Nat) : Option ERes :=
  match o.op with
  | .box _ x => match o.dst with
    | some i => some ⟨plainD own (ev sl x) = true, .bx i r 0, upE own i r (.box (cellsD (ev sl x)))⟩
    | none => none
  | .buildSlice t len parts => match o.dst, tElem P t, tElemId P t with
    | some i, some (k, bs), some et => some ⟨nPre P own (ev sl) (.buildSlice t len parts), .osl i r, upE own i r (.row et k bs (parts.toList.map fun p => cellsD (ev sl p.2)))⟩
    | _, _, _ => none
  | .alloc t => match o.dst, tZero P t with
    | some i, some z => some ⟨z.all (oneO []) = true, .bx i r 0, upE own i r (.box z)⟩
    | _, _ => none
  | .store t a x => match ev sl a with
    | .bx id r' off => match findE own id with
      | some e => match e.obj with
        | .box cs => some ⟨e.r = r' ∧ o.dst = none ∧ tCells P t = some (cellsD (ev sl x)).length ∧ plainD own (ev sl x) = true ∧ off + (cellsD (ev sl x)).length ≤ cs.length, .any, upE own id r' (.box (splice cs off (cellsD (ev sl x))))⟩
        | _ => none
      | none => none
    | _ => none
  | .call c => match c.callee with
    | .builtin .append => eAppend P own o.dst r (c.args.toList.map (ev sl)) c.argTypes.toList
    | _ => none
  | _ => none

end

section
variable {P : Program} {B : Base} {s : DS} {a : Act} {w : World} {loc : Nat → Loc} {ow : List Nat}

theorem oneO_nil {own : List Ent} {d : DVal} (h : oneO [] d = true) : oneO own d = true := by
  cases d <;> simp_all [oneO, isCur, findE, rowsOf]

theorem wp_val {ro : Option Nat} {o : Oper} {v : Value} {w' : World} {next : Act → World → Prop} {Q : Exit → Act → World → Prop} (hd : ∀ c, o.op ≠ .defer c) (h : (execOp a.eval o).run P w = .ok (.value v) w') (hn : next (a.put o.dst v) w') : o.wpIn (wd ro) 0 P a w next Q := by
  refine ⟨fun _ _ => trivial, ?_⟩
  rw [Oper.semAt_eq _ _ _ hd, h, Oper.uponIn_value]
  exact hn
theorem wp_unit {ro : Option Nat} {o : Oper} {w' : World} {next : Act → World → Prop} {Q : Exit → Act → World → Prop} (hd : ∀ c, o.op ≠ .defer c) (h : (execOp a.eval o).run P w = .ok .skip w') (hn : next (a.put o.dst Go.undef) w') : o.wpIn (wd ro) 0 P a w next Q := by
  refine ⟨fun _ _ => trivial, ?_⟩
  rw [Oper.semAt_eq _ _ _ hd, h, Oper.uponIn_skip]
  exact hn

theorem e_wp {o : Oper} {r : Nat} {x : ERes} {next : Act → World → Prop} {Q : Exit → Act → World → Prop} (R : Rel B s a w loc) (hr : lim B s ≤ r) (hd : dstOK B.nt o.dst = true) (h : eRes P o s.slots s.own r = some x) (hp : x.pre)
    (hn : ∀ a' w' loc', Rel B ⟨putS s.slots o.dst x.d, x.own⟩ a' w' loc' → next a' w') : o.wpIn (wd B.ro) 0 P a w next Q := by
  have hlim := hr
  unfold lim at hlim
  obtain ⟨dst, op, type, pos, after, guard⟩ := o
  simp only at hd hn ⊢
  unfold eRes at h
  simp only at h
  cases op <;> simp only [reduceCtorEq] at h
  case box t y =>
    cases dst with
    | none => simp at h
    | some i =>
      simp only [Option.some.injEq] at h
      subst h
      simp only at hp hn
      obtain ⟨h1, h2⟩ := cells_of R.st hp (R.ev y)
      have := R.newBox (id := i) (n := r) (cs := cellsD (ev s.slots y)) (us := (a.eval y).cells.toList) (ty := t) (dst := some i) hr (by rw [mx_cellsD]; have := ev_mx s.slots y; omega) (fun j hj => by simp only [Option.some.injEq] at hj; subst hj; simpa [dstOK] using hd) h1 h2
      have hrun : (execOp a.eval ⟨some i, .box t y, type, pos, after, guard⟩).run P w = .ok (.value (.pointer (some ⟨w.heap.size, 0, none⟩))) (w.alloc (.cells (a.eval y).cells.toList.toArray t)) := by
        simp [execOp, Instr.box, newVar, newRow]
      exact wp_val (fun c hc => by cases hc) hrun (hn _ _ _ this)
  case buildSlice t len parts =>
    split at h
    · rename_i i k bs et ht hte
      simp only [Option.some.injEq] at h
      subst h
      simp only at hp hn
      simp only [nPre, ht] at hp
      obtain ⟨h1, h2, h3, h4, h5, h6, h7⟩ := hp
      have hlen : parts.toList.length = len := by have := congrArg List.length h1; simpa using this
      obtain ⟨e, us, hu, hrun, hul, hrd⟩ := run_buildSlice (P := P) (M0 := B.M0) (vs := parts.map fun p => (p.1, a.eval p.2)) R.st ht h5 h2 h3 h4 (ds := parts.toList.map fun p => ev s.slots p.2) (by rw [Array.toList_map, List.map_map]; exact h1) (by simpa using hlen) (by simpa [List.all_map, Function.comp_def] using h6) (by
        intro i d q hd hq
        simp only [List.getElem?_map, Option.map_eq_some_iff, Array.toList_map] at hd hq
        obtain ⟨a', ha, rfl⟩ := hd
        obtain ⟨b, hb, rfl⟩ := hq
        rw [ha] at hb
        simp only [Option.some.injEq] at hb
        subst hb
        exact R.ev a'.2) h7
      have hee : e = et := by unfold tElemId at hte; rw [hu] at hte; simpa using hte
      subst hee
      have hL : ∀ b0, b0 ∈ (⟨[w.heap.size], .slice (some ⟨w.heap.size, 0, none⟩) len len⟩ : Loc).blks → b0 < (w.alloc (.cells us.toArray e)).heap.size ∧ ((∃ e ∈ s.own, e.id = i ∧ b0 ∈ (loc i).blks) ∨ w.heap.size ≤ b0) := by
        intro b0 hb0
        simp only [List.mem_singleton] at hb0
        subst hb0
        exact ⟨by simp, .inr (Nat.le_refl _)⟩
      have hw := Upd.alloc (hotOf s.own loc) w (.cells us.toArray e)
      have hmx : mxR (parts.toList.map fun p => cellsD (ev s.slots p.2)) ≤ r := by
        refine mxR_le' fun cs hm => ?_
        obtain ⟨p, hp, rfl⟩ := List.mem_map.1 hm
        rw [mx_cellsD]
        have := ev_mx s.slots p.2
        omega
      have W := R.weakUp (obj := .row e k bs (parts.toList.map fun p => cellsD (ev s.slots p.2))) (r := r) hr hw hL (.inl (Nat.le_refl _))
      have R' := R.up (id := i) (r := r) (obj := .row e k bs (parts.toList.map fun p => cellsD (ev s.slots p.2))) (L := ⟨[w.heap.size], .slice (some ⟨w.heap.size, 0, none⟩) len len⟩) (v := .slice (some ⟨w.heap.size, 0, none⟩) len len) (d := .osl i r) (dst := some i) hr
        (fun j hj => by simp only [Option.some.injEq] at hj; subst hj; simpa [dstOK] using hd) hw (fun b hb _ => by simp only [World.alloc, Array.getElem?_push]; rw [if_neg (by omega)]) hL (.inl (Nat.le_refl _))
        ⟨by simpa [hlen] using h3, .inr ⟨w.heap.size, us.toArray, len, rfl, by simp [hlen], heap_alloc_new w _, by simp [hlen], by unfold maxLen; omega, by simp [hul], rdR_weak W k _ _ 0 hmx (by simpa [List.map_map, Function.comp_def] using hrd)⟩⟩
        (by
          simp only [rd]
          intro l hl
          rw [curOf_up] at hl
          simp only [Option.some.injEq] at hl
          rw [← hl])
      have hrun' : (execOp a.eval ⟨some i, .buildSlice t len parts, type, pos, after, guard⟩).run P w = .ok (.value (.slice (some ⟨w.heap.size, 0, none⟩) len len)) (w.alloc (.cells us.toArray e)) := by
        simp [execOp, hrun]
      exact wp_val (fun c hc => by cases hc) hrun' (hn _ _ _ R')
    · simp at h
  case alloc t =>
    cases dst with
    | none => simp at h
    | some i =>
      split at h
      · rename_i z hi hz
        simp only [Option.some.injEq] at h hi
        subst h; subst hi
        simp only at hp hn
        obtain ⟨zv, hzr, rfl⟩ := tZero_ok (w := w) hz
        have hus : rdV (cu s loc) (hm s loc B.M0) w.heap (zv.cells.toList.map ofV1) zv.cells.toList := rdV_map_ofV1 _
        have hmx : mxL (zv.cells.toList.map ofV1) = 0 := by
          have h1 : ∀ v, mx (ofV1 v) = 0 := by
            intro v
            unfold ofV1
            split <;> (try split) <;> simp [mx]
          generalize zv.cells.toList = l
          induction l with
          | nil => simp [mxL]
          | cons v l ih => simp [mxL, h1, ih]
        have hone := oneO_all R.st (zv.cells.toList.map ofV1) zv.cells.toList (List.all_eq_true.2 fun d hd => oneO_nil (List.all_eq_true.1 hp d hd)) hus
        have := R.newBox (id := i) (n := r) (cs := zv.cells.toList.map ofV1) (us := zv.cells.toList) (ty := t) (dst := some i) hr (by omega) (fun j hj => by simp only [Option.some.injEq] at hj; subst hj; simpa [dstOK] using hd) hus hone
        have hrun : (execOp a.eval ⟨some i, .alloc t, type, pos, after, guard⟩).run P w = .ok (.value (.pointer (some ⟨w.heap.size, 0, none⟩))) (w.alloc (.cells zv.cells.toList.toArray t)) := by
          simp [execOp, Instr.alloc, hzr, newVar, newRow]
        exact wp_val (fun c hc => by cases hc) hrun (hn _ _ _ this)
      · simp at h
  case store t ad y =>
    split at h
    · rename_i id r' off had
      split at h
      · rename_i e he
        split at h
        · rename_i cs hob
          simp only [Option.some.injEq] at h
          subst h
          simp only at hp hn
          obtain ⟨her, rfl, hc, hpl, hfit⟩ := hp
          have ha := R.ev ad
          rw [had] at ha
          obtain ⟨w', hrun, R'⟩ := R.storeBox (P := P) (t := t) (n := r) he her hob ha (R.ev y) hpl hc hfit (ev_mx s.slots y) hr
          have hrun' : (execOp a.eval ⟨none, .store t ad y, type, pos, after, guard⟩).run P w = .ok .skip w' := by
            simp [execOp, hrun]
          exact wp_unit (fun c hc => by cases hc) hrun' (hn _ _ _ R')
        · simp at h
      · simp at h
    · simp at h
  case call c =>
    obtain ⟨cal, args, ats⟩ := c
    cases cal <;> simp only [reduceCtorEq] at h
    rename_i b
    cases b <;> simp only [reduceCtorEq] at h
    obtain ⟨al⟩ := args
    obtain ⟨tl⟩ := ats
    unfold eAppend at h
    split at h
    · rename_i da db t t' hargs hts
      split at h
      · rename_i i k bs et ht hte
        split at h
        · rename_i id es k2 es2 hdest hsrc
          simp only [Option.some.injEq] at h
          subst h
          simp only at hp hn
          obtain ⟨rfl, hz, hk, hk2, hb, hl⟩ := hp
          match al, hargs with
          | [xa, xb], hargs =>
            simp only [List.map_cons, List.map_nil, List.cons.injEq, and_true] at hargs
            obtain ⟨hxa, hxb⟩ := hargs
            subst hts
            have ra := R.ev xa
            have rb := R.ev xb
            rw [hxa] at ra
            rw [hxb] at rb
            have ma := ev_mx s.slots xa
            have mb := ev_mx s.slots xb
            rw [hxa] at ma
            rw [hxb] at mb
            have hrow : RowAt s loc w B.M0 (id.getD i) et k bs es (a.eval xa) ∧ mxR es ≤ r := by
              unfold destOf at hdest
              split at hdest
              · simp only [Option.some.injEq, Prod.mk.injEq] at hdest
                obtain ⟨rfl, rfl⟩ := hdest
                simp only [Rds, rd] at ra
                exact ⟨.inl ⟨rfl, ra⟩, by simp [mxR]⟩
              · rename_i id' r'
                split at hdest
                · rename_i e0 he0
                  split at hdest
                  · rename_i her
                    split at hdest
                    · rename_i et' k' bs' es' hob
                      split at hdest
                      · rename_i heq
                        obtain ⟨rfl, rfl, rfl⟩ := heq
                        simp only [Option.some.injEq, Prod.mk.injEq] at hdest
                        obtain ⟨rfl, rfl⟩ := hdest
                        refine ⟨rowAt_osl R.st he0 her hob ra, ?_⟩
                        have := (mem_mxE (findE_ent he0).1).2
                        rw [hob] at this
                        simp only [mxO] at this
                        omega
                      · simp at hdest
                    · simp at hdest
                  · simp at hdest
                · simp at hdest
              · simp at hdest
            have hmx2 : mxR es2 ≤ r := by
              unfold rowsN at hsrc
              split at hsrc
              · simp only [Option.some.injEq, Prod.mk.injEq] at hsrc
                obtain ⟨_, rfl⟩ := hsrc
                simp [mxR]
              · simp only [Option.some.injEq, Prod.mk.injEq] at hsrc
                obtain ⟨_, rfl⟩ := hsrc
                simp [mxR]
              · rw [Option.map_eq_some_iff] at hsrc
                obtain ⟨⟨k', b', es'⟩, h1, h2⟩ := hsrc
                simp only [Prod.mk.injEq] at h2
                obtain ⟨_, rfl⟩ := h2
                have := rowsOf_mx h1
                omega
            obtain ⟨v', w', L, hrun, R'⟩ := R.append (P := P) (ty := type) (id := id.getD i) (n := r) (dst := some i) hr (fun j hj => by simp only [Option.some.injEq] at hj; subst hj; simpa [dstOK] using hd) ht hte hz hk hrow.1 hrow.2 rb hsrc hk2 hmx2 hb (by unfold maxLen; omega)
            have hrun' : (execOp a.eval ⟨some i, .call { callee := .builtin .append, args := ⟨[xa, xb]⟩, argTypes := ⟨[t', t']⟩ }, type, pos, after, guard⟩).run P w = .ok (.value v') w' := by
              simp only [execOp, resolve, Sem.run_bind, List.map_toArray, List.map_cons, List.map_nil, Sem.run_pure, Result.andThen_ok, invoke, builtin, hrun]
            exact wp_val (fun c hc => by cases hc) hrun' (hn _ _ _ R')
        · simp at h
      · simp at h
    · simp at h

end

end Go.Dm
