/- Parts of a proof, laid together: EvM. -/
import Derived.Test.YtedjakmhhlilaaaGreatqGx18
set_option linter.unusedSimpArgs false
set_option linter.unusedVariables false
set_option linter.unusedSectionVars false
section
namespace Go.Dm
variable [DMode]
section
variable {P : Program} {B : Base} {s : DS} {a : Act} {w : World} {loc : Nat → Loc}
theorem Rel.newEs {id r n b clk clk' : Nat} {ks' vs' : List DVal} {e : Ent} {es es' : Array MapEntry} {dst : Option Nat} {d : DVal} {v : Value} (R : Rel B s a w loc) (he : findE s.own id = some e) (her : e.r = r)
  (h1 : (loc id).blks = [b]) (h2 : w.heap[b]? = some (.map es clk)) (hb : bornC es' clk') (hk1 : rdV (cu s loc) (hm s loc B.M0) w.heap ks' (es'.toList.map (·.key))) (hv1 : rdV (cu s loc) (hm s loc B.M0) w.heap vs' (es'.toList.map (·.val)))
  (hmk : mxL ks' ≤ n) (hmv : mxL vs' ≤ n) (hn : lim B s ≤ n) (hdst : ∀ i, dst = some i → i < B.nt) (hd : rd (cu s loc) (hm s loc B.M0) w.heap d v) (hdm : mx d ≤ n) :
  Rel B ⟨putS s.slots dst d, upE s.own id r (.map ks' vs')⟩ (a.put dst v) { w with heap := w.heap.setIfInBounds b (.map es' clk') } (upL loc id (loc id)) := by
 obtain ⟨hmem, hid⟩ := findE_ent he
 have hcur : curOf s.own loc id r = some (loc id) := by unfold curOf; rw [he]; simp [her]
 have hb1 : b ∈ (loc id).blks := by rw [h1]; simp
 have hblt := (Array.getElem?_eq_some_iff.1 h2).1
 have hw : Upd (hotOf s.own loc) w { w with heap := w.heap.setIfInBounds b (.map es' clk') } := by
  refine ⟨rfl, rfl, rfl, fun _ => Nat.le_refl _, by simp, fun b0 _ hn0 => ?_⟩
  have hne : b ≠ b0 := fun h => hn0 (h ▸ mem_hot hmem (by rw [hid]; exact hb1))
  simp [Array.getElem?_setIfInBounds, hne]
 have hL : ∀ b0, b0 ∈ (loc id).blks → b0 < ({ w with heap := w.heap.setIfInBounds b (.map es' clk') } : World).heap.size ∧ ((∃ e ∈ s.own, e.id = id ∧ b0 ∈ (loc id).blks) ∨ w.heap.size ≤ b0) := by
  intro b0 hb0
  refine ⟨?_, .inl ⟨e, hmem, hid, hb0⟩⟩
  rw [h1] at hb0
  simp only [List.mem_singleton] at hb0
  subst hb0
  simpa using hblt
 have W := R.weakUp (obj := .map ks' vs') hn hw hL (.inr hcur)
 refine R.up (hLn := by rw [h1]; simp) (n := n) hn hdst hw ?_ hL (.inr hcur) ?_ (rd_weak W _ _ hdm hd)
 ·intro b0 hb0 hne
  have hne' : b ≠ b0 := fun h => hne e hmem hid (by rw [← h]; exact hb1)
  simp [Array.getElem?_setIfInBounds, hne']
 ·exact ⟨b, es', clk', h1, by simp [Array.getElem?_setIfInBounds, hblt], hb, rdV_weak W _ _ hmk hk1, rdV_weak W _ _ hmv hv1⟩
theorem Rel.newEsD {id r n b clk clk' : Nat} {ks' vs' : List DVal} {e : Ent} {es es' : Array MapEntry} {dst : Option Nat} {d : DVal} {v : Value} (R : Rel B s a w loc) (he : findE s.own id = some e) (her : e.r = r)
  (h1 : (loc id).blks = [b]) (h2 : w.heap[b]? = some (.map es clk)) (hb : bornOK es' clk') (hk1 : rdV (cu s loc) (hm s loc B.M0) w.heap ks' (es'.toList.map (·.key))) (hv1 : rdV (cu s loc) (hm s loc B.M0) w.heap vs' (es'.toList.map (·.val)))
  (hmk : mxL ks' ≤ n) (hmv : mxL vs' ≤ n) (hn : lim B s ≤ n) (hdst : ∀ i, dst = some i → i < B.nt) (hd : rd (cu s loc) (hm s loc B.M0) w.heap d v) (hdm : mx d ≤ n) :
  Rel B ⟨putS s.slots dst d, upE s.own id r (.mapD ks' vs')⟩ (a.put dst v) { w with heap := w.heap.setIfInBounds b (.map es' clk') } (upL loc id (loc id)) := by
 obtain ⟨hmem, hid⟩ := findE_ent he
 have hcur : curOf s.own loc id r = some (loc id) := by unfold curOf; rw [he]; simp [her]
 have hb1 : b ∈ (loc id).blks := by rw [h1]; simp
 have hblt := (Array.getElem?_eq_some_iff.1 h2).1
 have hw : Upd (hotOf s.own loc) w { w with heap := w.heap.setIfInBounds b (.map es' clk') } := by
  refine ⟨rfl, rfl, rfl, fun _ => Nat.le_refl _, by simp, fun b0 _ hn0 => ?_⟩
  have hne : b ≠ b0 := fun h => hn0 (h ▸ mem_hot hmem (by rw [hid]; exact hb1))
  simp [Array.getElem?_setIfInBounds, hne]
 have hL : ∀ b0, b0 ∈ (loc id).blks → b0 < ({ w with heap := w.heap.setIfInBounds b (.map es' clk') } : World).heap.size ∧ ((∃ e ∈ s.own, e.id = id ∧ b0 ∈ (loc id).blks) ∨ w.heap.size ≤ b0) := by
  intro b0 hb0
  refine ⟨?_, .inl ⟨e, hmem, hid, hb0⟩⟩
  rw [h1] at hb0
  simp only [List.mem_singleton] at hb0
  subst hb0
  simpa using hblt
 have W := R.weakUp (obj := .mapD ks' vs') hn hw hL (.inr hcur)
 refine R.up (hLn := by rw [h1]; simp) (n := n) hn hdst hw ?_ hL (.inr hcur) ?_ (rd_weak W _ _ hdm hd)
 ·intro b0 hb0 hne
  have hne' : b ≠ b0 := fun h => hne e hmem hid (by rw [← h]; exact hb1)
  simp [Array.getElem?_setIfInBounds, hne']
 ·exact ⟨b, es', clk', h1, by simp [Array.getElem?_setIfInBounds, hblt], hb, rdV_weak W _ _ hmk hk1, rdV_weak W _ _ hmv hv1⟩
theorem mxL_get {l : List DVal} {j n : Nat} (h : mxL l ≤ n) : mx (l.getD j .any) ≤ n := by
 induction l generalizing j with
 | nil => simp [mx]
 | cons d l ih =>
  simp only [mxL] at h
  cases j with
  | zero => simp; omega
  | succ j => simp only [List.getD_cons_succ]; exact ih (by omega)
theorem mxL_setN {l : List DVal} {j n : Nat} {d : DVal} (h : mxL l ≤ n) (hd : mx d ≤ n) : mxL (l.set j d) ≤ n := by
 induction l generalizing j with
 | nil => simp [mxL]
 | cons x l ih =>
  simp only [mxL] at h
  cases j with
  | zero => simp only [List.set_cons_zero, mxL]; omega
  | succ j => simp only [List.set_cons_succ, mxL]; have := ih (j := j) (by omega); omega
theorem born_find {es : Array MapEntry} {clk j : Nat} (h : bornC es clk) (hj : j < es.size) : es.findIdx? (fun e => (e.born : Int) == (j : Int)) = some j := by
 obtain ⟨_, h⟩ := h
 rw [Array.findIdx?_eq_some_iff_getElem]
 refine ⟨hj, ?_, fun i hi => ?_⟩
 ·rw [h j _ (Array.getElem?_eq_getElem hj)]; simp
 ·rw [h i _ (Array.getElem?_eq_getElem (by omega))]
  simp only [beq_eq_false_iff_ne, ne_eq, Bool.not_eq_true]
  omega
theorem bornC_modify {es : Array MapEntry} {clk j : Nat} {f : MapEntry → MapEntry} (h : bornC es clk) (hf : ∀ e, (f e).born = e.born) : bornC (es.modify j f) clk := by
 obtain ⟨rfl, h⟩ := h
 refine ⟨by simp, fun i e he => ?_⟩
 rw [Array.getElem?_modify] at he
 split at he
 ·cases hes : es[i]? with
  | none => rw [hes] at he; simp at he
  | some e0 =>
   rw [hes] at he
   simp only [Option.map_some, Option.some.injEq] at he
   rw [← he, hf]
   exact h i e0 hes
 ·exact h i e he
theorem modify_map {α β : Type} (g : α → β) (f : α → α) (es : Array α) (j : Nat) (h : ∀ x, es[j]? = some x → g (f x) = g x) : (es.modify j f).toList.map g = es.toList.map g := by
 apply List.ext_getElem?
 intro i
 simp only [List.getElem?_map, Array.getElem?_toList, Array.getElem?_modify]
 split
 ·rename_i hij
  subst hij
  cases hes : es[j]? with
  | none => rfl
  | some x => simp [h x hes]
 ·rfl
theorem modify_set {α β : Type} (g : α → β) (f : α → α) (es : Array α) (j : Nat) (y : β) (h : ∀ x, g (f x) = y) : (es.modify j f).toList.map g = (es.toList.map g).set j y := by
 apply List.ext_getElem?
 intro i
 simp only [List.getElem?_map, Array.getElem?_toList, Array.getElem?_modify, List.getElem?_set, List.length_map, Array.length_toList]
 split
 ·rename_i hij
  subst hij
  cases hes : es[j]? with
  | none =>
   have : ¬ j < es.size := by rw [Array.getElem?_eq_none_iff] at hes; omega
   simp [this]
  | some x =>
   have : j < es.size := (Array.getElem?_eq_some_iff.1 hes).1
   simp [this, h x]
 ·rfl
def meRes (P : Program) (own : List Ent) (t : TypeId) (m k : DVal) : Option (DVal × Ent) := match m, tMap P t with
 | .omp id r', some (kt, et) => (match findE own id with
  | some en => (match en.obj with
   | .map ks vs => (match tZeroD P et with
    | some z => if en.r == r' && keyOK P kt k && ks.all (keyOK P kt) && decide (ks.length ≤ 4611686018427387904) then
     (match lookI ks k with
      | some j => some (.tup [vs.getD j .any, .int .i64 j], ⟨id, r', .map ks vs⟩)
      | none => some (.tup [z, .int .i64 ks.length], ⟨id, r', .map (ks ++ [k]) (vs ++ [z])⟩)) else none
    | none => none)
   | _ => none)
  | none => none)
 | _, _ => none
def esRes (own : List Ent) (m st x : DVal) : Option (DVal × Ent) := match m, st with
 | .omp id r', .int .i64 j => (match findE own id with
  | some en => (match en.obj with
   | .map ks vs => if en.r == r' && decide (0 ≤ j) && decide (j < ks.length) then some (.any, ⟨id, r', .map ks (vs.set j.toNat x)⟩) else none
   | _ => none)
  | none => none)
 | _, _ => none
theorem me_sem {o : Oper} {t : TypeId} {m k : Operand} {ed : Operand → DVal} {own : List Ent} {r : Nat} {d : DVal} {en : Ent} (ho : o.op = .mapEntry t m k) (h : meRes P own t (ed m) (ed k) = some (d, en)) :
  SemF P o ed own r d (upE own en.id en.r en.obj) (r + 1) := by
 unfold meRes at h
 split at h
 rotate_left
 ·simp at h
 rename_i id r' kt et hem ht
 split at h
 rotate_left
 ·simp at h
 rename_i e0 he
 split at h
 rotate_left
 ·simp at h
 rename_i ks vs hob
 split at h
 rotate_left
 ·simp at h
 rename_i z hz
 split at h
 rotate_left
 ·simp at h
 rename_i hc
 simp only [Bool.and_eq_true, beq_iff_eq, decide_eq_true_eq] at hc
 obtain ⟨⟨⟨her, hko⟩, hkall⟩, hlen⟩ := hc
 have hzm := tZeroD_mx hz
 have hmO := (mem_mxE (findE_ent he).1)
 rw [hob] at hmO
 simp only [mxO] at hmO
 constructor
 ·intro h1 h2
  have hk := h2 k (by rw [ho]; simp [Op.operands])
  split at h
  ·simp only [Option.some.injEq, Prod.mk.injEq] at h
   obtain ⟨rfl, rfl⟩ := h
   refine ⟨by omega, ?_, Nat.le_trans (mxE_upE _ _ _ _) ?_⟩
   ·simp only [mx, mxL]
    have := mxL_get (j := (by assumption)) (show mxL vs ≤ r by omega)
    omega
   ·simp only [mxO]; omega
  ·simp only [Option.some.injEq, Prod.mk.injEq] at h
   obtain ⟨rfl, rfl⟩ := h
   refine ⟨by omega, ?_, Nat.le_trans (mxE_upE _ _ _ _) ?_⟩
   ·simp only [mx, mxL]; omega
   ·simp only [mxO, mxL_append', mxL]; omega
 ·rintro B s a w loc next Q R rfl hlim hd hed hmd hn
  obtain ⟨dst, op, type, pos, after, guard⟩ := o
  simp only at ho hd hn
  subst ho
  have hlim' := hlim
  unfold lim at hlim'
  obtain ⟨hmem, hid⟩ := findE_ent he
  have hob' := R.st.ok e0 hmem
  rw [hob] at hob'
  obtain ⟨b, es, clk, h1, h2, h3, h4, h5⟩ := hob'
  rw [hid] at h1
  have hcur : curOf s.own loc id r' = some (loc id) := by unfold curOf; rw [he]; simp [her]
  have ha := hed m (by simp [Op.operands])
  have hk := hed k (by simp [Op.operands])
  have hmk := hmd k (by simp [Op.operands])
  rw [hem] at ha
  simp only [Rds, rd] at ha
  obtain ⟨b', hb', hmv⟩ := ha _ hcur
  rw [h1] at hb'
  simp only [List.cons.injEq, and_true] at hb'
  subst hb'
  have hu : P.underlying t = some (.map kt et) := by unfold tMap at ht; split at ht <;> simp_all
  have hfind := run_findKey (w := w) hko hk es.toList ks hkall h4
  have hlen1 := rdV_length _ _ h4
  have hlen2 := rdV_length _ _ h5
  simp only [List.length_map, Array.length_toList] at hlen1 hlen2
  have hlt : ∀ i, dst = some i → i < B.nt := fun i hi => by subst hi; simpa [dstOK] using hd
  split at h
  ·rename_i j hq
   simp only [Option.some.injEq, Prod.mk.injEq] at h
   obtain ⟨rfl, rfl⟩ := h
   obtain ⟨k0, hk0, heq⟩ := lookI_eq hq
   obtain ⟨v0, hv0, hr0⟩ := rdV_at _ _ j k0 h4 hk0
   have hjlt : j < es.size := by
    have := (List.getElem?_eq_some_iff.1 hk0).1
    omega
   have hkey : (es[j]?).map (·.key) = some v0 := by
    rw [List.getElem?_map] at hv0
    simpa using hv0
   obtain ⟨rfl, hsb⟩ := key_same hko (List.all_eq_true.1 hkall k0 (List.mem_of_getElem? hk0)) heq hk hr0
   obtain ⟨vj, hvj, hrj⟩ := rdV_at _ _ j (vs.getD j .any) h5 (by rw [List.getD_eq_getElem?_getD, List.getElem?_eq_getElem (by omega)]; simp)
   have hval : (es[j]?).map (·.val) = some vj := by
    rw [List.getElem?_map] at hvj
    simpa using hvj
   have hborn : (es[j]?).map (·.born) = some j := by
    rw [Array.getElem?_eq_getElem hjlt]
    simp only [Option.map_some, Option.some.injEq]
    exact h3.2 j _ (Array.getElem?_eq_getElem hjlt)
   have hvalD : ((es.toList[j]?).map (·.val)).getD Go.undef = vj := by simp [hval]
   have hrun : (execOp a.eval ⟨dst, .mapEntry t m k, type, pos, after, guard⟩).run P w = .ok (.value (.tuple #[vj, goInt (j : Int)])) { w with heap := w.heap.setIfInBounds b (.map (es.modify j fun e => { e with key := a.eval k }) clk) } := by
    simp only [execOp, Sem.run_bind, Instr.mapEntry, run_underlying hu, Result.andThen_ok, hmv, MapKept.run_getObj_map h2, run_checkKey' hko hk, hfind, hq, Option.map_some, hkey, hborn, Option.getD_some, Instr.keyThatStays, hsb, if_true, Sem.run_pure, MapKept.run_setObj_map _ h2]
    have hborn' : (es[j]?).map (fun x => (x.born : Int)) = some (j : Int) := by rw [Array.getElem?_eq_getElem hjlt] at hborn ⊢; simp only [Option.map_some, Option.some.injEq] at hborn ⊢; rw [hborn]
    simp [hval, hborn']
   refine wp_val (fun c hc => by cases hc) hrun (hn _ _ (upL loc id (loc id)) ?_)
   refine R.newEs (n := r) he her h1 h2 (bornC_modify h3 fun _ => rfl) ?_ ?_ (by omega) (by omega) hlim hlt ?_ ?_
   ·rw [modify_map (·.key) _ es j (fun x hx => by rw [hx] at hkey; simpa using hkey.symm)]; exact h4
   ·rw [modify_map (·.val) (fun e => { e with key := a.eval k }) es j (fun x hx => rfl)]; exact h5
   ·simp only [rd]
    refine ⟨_, rfl, ?_⟩
    simp only [rdV]
    exact ⟨vj, _, rfl, hrj, _, _, rfl, by simp only [rd, goInt, inR]; exact ⟨trivial, by omega, by omega⟩, rfl⟩
   ·simp only [mx, mxL]
    have := mxL_get (j := j) (show mxL vs ≤ r by omega)
    omega
  ·rename_i hq
   simp only [Option.some.injEq, Prod.mk.injEq] at h
   obtain ⟨rfl, rfl⟩ := h
   obtain ⟨zv, hzr, hzd⟩ := tZeroD_ok (P := P) (cur := cu s loc) (M := hm s loc B.M0) (h := w.heap) hz (w := w)
   have hclk := h3.1
   have hrun : (execOp a.eval ⟨dst, .mapEntry t m k, type, pos, after, guard⟩).run P w = .ok (.value (.tuple #[zv, goInt (clk : Int)])) { w with heap := w.heap.setIfInBounds b (.map (es.push { key := a.eval k, val := zv, born := clk }) (clk + 1)) } := by
    simp only [execOp, Sem.run_bind, Instr.mapEntry, run_underlying hu, Result.andThen_ok, hmv, MapKept.run_getObj_map h2, run_checkKey' hko hk, hfind, hq, Option.map_none, hzr, MapKept.run_setObj_map _ h2, Sem.run_pure]
   refine wp_val (fun c hc => by cases hc) hrun (hn _ _ (upL loc id (loc id)) ?_)
   refine R.newEs (n := r) he her h1 h2 ⟨by simp [hclk], fun i e' he' => ?_⟩ ?_ ?_ (by simp only [mxL_append', mxL]; omega) (by simp only [mxL_append', mxL]; omega) hlim hlt ?_ ?_
   ·rw [Array.getElem?_push] at he'
    split at he'
    ·rename_i hi
     simp only [Option.some.injEq] at he'
     subst he'
     simp only
     omega
    ·exact h3.2 i e' he'
   ·simp only [Array.toList_push, List.map_append, List.map_cons, List.map_nil]
    exact rdV_append _ _ _ _ h4 (by simp only [rdV]; exact ⟨_, [], rfl, hk, rfl⟩)
   ·simp only [Array.toList_push, List.map_append, List.map_cons, List.map_nil]
    exact rdV_append _ _ _ _ h5 (by simp only [rdV]; exact ⟨zv, [], rfl, hzd, rfl⟩)
   ·simp only [rd]
    refine ⟨_, rfl, ?_⟩
    simp only [rdV]
    exact ⟨zv, _, rfl, hzd, _, _, rfl, by simp only [rd, goInt, inR]; exact ⟨by rw [hclk, hlen1], by omega, by omega⟩, rfl⟩
   ·simp only [mx, mxL]; omega
theorem es_sem {o : Oper} {t : TypeId} {m st x : Operand} {ed : Operand → DVal} {own : List Ent} {r : Nat} {d : DVal} {en : Ent} (ho : o.op = .entryStore t m st x) (hdn : o.dst = none) (h : esRes own (ed m) (ed st) (ed x) = some (d, en)) :
  SemF P o ed own r d (upE own en.id en.r en.obj) (r + 1) := by
 unfold esRes at h
 split at h
 rotate_left
 ·simp at h
 rename_i id r' j hem hst
 split at h
 rotate_left
 ·simp at h
 rename_i e0 he
 split at h
 rotate_left
 ·simp at h
 rename_i ks vs hob
 split at h
 rotate_left
 ·simp at h
 rename_i hc
 simp only [Bool.and_eq_true, beq_iff_eq, decide_eq_true_eq] at hc
 obtain ⟨⟨her, hj0⟩, hjl⟩ := hc
 simp only [Option.some.injEq, Prod.mk.injEq] at h
 obtain ⟨rfl, rfl⟩ := h
 have hmO := (mem_mxE (findE_ent he).1)
 rw [hob] at hmO
 simp only [mxO] at hmO
 constructor
 ·intro h1 h2
  have hx := h2 x (by rw [ho]; simp [Op.operands])
  refine ⟨by omega, by simp [mx], Nat.le_trans (mxE_upE _ _ _ _) ?_⟩
  simp only [mxO]
  have := mxL_setN (j := j.toNat) (show mxL vs ≤ r by omega) hx
  omega
 ·rintro B s a w loc next Q R rfl hlim hd hed hmd hn
  obtain ⟨dst, op, type, pos, after, guard⟩ := o
  simp only at ho hd hn hdn
  subst ho
  subst hdn
  have hlim' := hlim
  unfold lim at hlim'
  obtain ⟨hmem, hid⟩ := findE_ent he
  have hob' := R.st.ok e0 hmem
  rw [hob] at hob'
  obtain ⟨b, es, clk, h1, h2, h3, h4, h5⟩ := hob'
  rw [hid] at h1
  have hcur : curOf s.own loc id r' = some (loc id) := by unfold curOf; rw [he]; simp [her]
  have ha := hed m (by simp [Op.operands])
  have hs := hed st (by simp [Op.operands])
  have hx := hed x (by simp [Op.operands])
  have hmx := hmd x (by simp [Op.operands])
  rw [hem] at ha
  rw [hst] at hs
  simp only [Rds, rd] at ha hs
  obtain ⟨b', hb', hmv⟩ := ha _ hcur
  rw [h1] at hb'
  simp only [List.cons.injEq, and_true] at hb'
  subst hb'
  have hlen1 := rdV_length _ _ h4
  simp only [List.length_map, Array.length_toList] at hlen1
  obtain ⟨jn, rfl⟩ : ∃ jn : Nat, j = jn := ⟨j.toNat, by omega⟩
  have hjlt : jn < es.size := by omega
  have hfi := born_find h3 hjlt
  have hrun : (execOp a.eval ⟨none, .entryStore t m st x, type, pos, after, guard⟩).run P w = .ok .skip { w with heap := w.heap.setIfInBounds b (.map (es.modify jn fun e => { e with val := a.eval x }) clk) } := by
   simp only [execOp, Sem.run_bind, Instr.entryStore, Result.andThen_ok, hmv, MapKept.run_getObj_map h2, hs.1, asInt, asIntOf, Sem.run_pure, hfi, MapKept.run_setObj_map _ h2]
  refine wp_unit (fun c hc => by cases hc) hrun (hn _ _ (upL loc id (loc id)) ?_)
  have := R.newEs (n := r) (d := .any) (v := Go.undef) (dst := none) (ks' := ks) (vs' := vs.set jn (ed x)) (es' := es.modify jn fun e => { e with val := a.eval x }) he her h1 h2 (bornC_modify h3 fun _ => rfl) (by rw [modify_map (·.key) (fun e => { e with val := a.eval x }) es jn (fun _ _ => rfl)]; exact h4)
   (by rw [modify_set (·.val) (fun e => { e with val := a.eval x }) es jn (a.eval x) (fun _ => rfl)]; exact rdV_set h5 hx) (by omega) (mxL_setN (by omega) (by omega)) hlim (fun i hi => by simp at hi) (by simp [rd]) (by simp [mx])
  simpa using this
def azRes (P : Program) (dst : Option Nat) (r : Nat) (l : List DVal) (ts : List TypeId) : Option (DVal × Ent) := match l, ts with
 | [x, c], [t, t2] => (match x, c, dst with
  | .nilsl, .int _ n, some _ => (match tElem P t, tElemId P t, tZeroE P t with
   | some (k, bs), some et, some zs => if (tInt P t2).isSome && decide (0 < n) && zs.all (oneO []) && zs.length == k && decide (0 < k) && decide (n.toNat * bs ≤ 150000000000000) && decide (n ≤ 9223372036854775807) then
    some (.osl r r, ⟨r, r, .row et k bs (List.replicate n.toNat zs)⟩) else none
   | _, _, _ => none)
  | _, _, _ => none)
 | _, _ => none
theorem run_append_zeros (t u ty e : TypeId) (i : TypeInfo) (z : Value) {ik kk : IntKind} (ht : P.underlying t = some (.slice e)) (hu : P.underlying u = some (.int ik)) (hi : P.info? e = some i) (hz : i.zero = some z) (n : Nat) (hs : 0 < i.size)
  (h0 : 0 < n) (h63 : (n : Int) ≤ 9223372036854775807) (h48 : n * i.bytes ≤ 281474976710656) :
  (Builtin.append_ #[t, u] ty #[.slice none 0 0, .int kk n]).run P w =
   .ok (.slice (some ⟨w.heap.size, 0, none⟩) n (grownCap w n 0 e))
    (w.drew.alloc (.cells (Builtin.zeroCells z.cells n ++ Builtin.zeroCells z.cells (grownCap w n 0 e - n)) e)) := by
 have hn : n ≠ 0 := by omega
 have h63' : ¬ (9223372036854775807 < (n : Int)) := by omega
 have h48' : ¬ (281474976710656 < Builtin.nextslicecap n 0 * i.bytes) := by rw [nextslicecap_zero h0]; omega
 have hw : IntKind.i64.wrap (n : Int) = n := by simp [IntKind.wrap, IntKind.bits, IntKind.signed]; omega
 have hneg : ¬ ((n : Int) < 0) := by omega
 have h48i : ¬ (281474976710656 < (n : Int) * (i.bytes : Int)) := by
  have : ((n * i.bytes : Nat) : Int) = (n : Int) * (i.bytes : Int) := by simp
  omega
 have hsz : ¬ (i.size = 0) := by omega
 simp [Builtin.append_, run_underlying ht, run_underlying hu, sizeOf, typeInfo, zeroValue, hi, hz, Builtin.lenOf, Builtin.firstCells, hn, h63', h48', Question.forced, newRow, grownCap, asInt, asIntOf, hw, hneg, h48i, hsz]
 intro hx
 exact absurd hx (by have := Nat.mul_pos h0 hs; omega)
theorem az_sem {o : Oper} {c : Call} {ed : Operand → DVal} {own : List Ent} {r : Nat} {d : DVal} {en : Ent} (ho : o.op = .call c) (hcal : c.callee = .builtin .append) (h : azRes P o.dst r (c.args.toList.map ed) c.argTypes.toList = some (d, en)) :
  SemF P o ed own r d (upE own en.id en.r en.obj) (r + 1) := by
 unfold azRes at h
 split at h
 rotate_left
 ·simp at h
 rename_i x0 c0 t t2 hargs hts
 split at h
 rotate_left
 ·simp at h
 rename_i kk n i hdst0
 split at h
 rotate_left
 ·simp at h
 rename_i k bs et zs ht hte hz
 split at h
 rotate_left
 ·simp at h
 rename_i hc
 simp only [Bool.and_eq_true, beq_iff_eq, decide_eq_true_eq] at hc
 obtain ⟨⟨⟨⟨⟨⟨hti, hn0⟩, hzo⟩, hzl⟩, hk0⟩, hbs⟩, hmaxn⟩ := hc
 simp only [Option.some.injEq, Prod.mk.injEq] at h
 obtain ⟨rfl, rfl⟩ := h
 obtain ⟨e', ti, hu, hi, hsz, hby, _⟩ := tElem_some ht
 have hee : e' = et := by unfold tElemId at hte; rw [hu] at hte; simpa using hte
 subst hee
 unfold tZeroE at hz
 rw [hu] at hz
 simp only at hz
 obtain ⟨z, hzr, hzc⟩ : ∃ z, ti.zero = some z ∧ zs = z.cells.toList.map ofV1 := by
  unfold tZero at hz
  rw [hi] at hz
  simp only at hz
  rw [Option.map_eq_some_iff] at hz
  obtain ⟨z, h1, h2⟩ := hz
  exact ⟨z, h1, h2.symm⟩
 subst hzc
 simp only [List.length_map, Array.length_toList] at hzl
 have hmz : mxR (List.replicate n.toNat (z.cells.toList.map ofV1)) ≤ 0 := mxR_rep (by rw [ofV1_mx]; exact Nat.le_refl _)
 constructor
 ·intro h1 h2
  refine ⟨by omega, by simp [mx], Nat.le_trans (mxE_upE _ _ _ _) ?_⟩
  simp only [mxO]; omega
 ·rintro B s a w loc next Q R rfl hlim hd hed hmd hn
  obtain ⟨dst, op, type, pos, after, guard⟩ := o
  simp only at ho hd hn hdst0
  subst ho
  subst hdst0
  obtain ⟨cal, ⟨al⟩, ⟨tl⟩⟩ := c
  simp only at hcal hed hmd
  have hts : tl = [t, t2] := hts
  have hargs2 : al.map ed = [.nilsl, .int kk n] := hargs
  clear hargs
  subst hcal
  subst hts
  obtain ⟨xa, xb, rfl⟩ : ∃ xa xb, al = [xa, xb] := by
   have hl : al.length = 2 := by simpa using congrArg List.length hargs2
   cases al with
   | nil => simp at hl
   | cons xa al => cases al with
    | nil => simp at hl
    | cons xb al => cases al with
     | nil => exact ⟨_, _, rfl⟩
     | cons _ _ => simp at hl
  ·have hargs := hargs2
   simp only [List.map_cons, List.map_nil, List.cons.injEq, and_true] at hargs
   obtain ⟨hxa, hxb⟩ := hargs
   have ra := hed xa (by simp [Op.operands, Call.operands])
   have rb := hed xb (by simp [Op.operands, Call.operands])
   rw [hxa] at ra
   rw [hxb] at rb
   simp only [Rds, rd] at ra rb
   obtain ⟨rb, _⟩ := rb
   obtain ⟨m, rfl⟩ : ∃ m : Nat, n = m := ⟨n.toNat, by omega⟩
   simp only [Int.toNat_natCast] at hbs hmz hn ⊢
   obtain ⟨ik, hu2⟩ : ∃ ik, P.underlying t2 = some (.int ik) := by
    unfold tInt at hti
    split at hti
    ·exact ⟨_, by assumption⟩
    ·simp at hti
   subst hsz; subst hby
   have hone : ∀ u ∈ z.cells.toList, u.oneCell' = true := by
    intro u hu'
    have hus : rdV (cu s loc) (hm s loc B.M0) w.heap (z.cells.toList.map ofV1) z.cells.toList := rdV_map_ofV1 _
    exact oneO_all R.st (z.cells.toList.map ofV1) z.cells.toList (List.all_eq_true.2 fun d hd => oneO_nil' (List.all_eq_true.1 hzo d hd)) hus u hu'
   have hrun := run_append_zeros (P := P) (w := w) t t2 type e' ti z (ik := ik) (kk := kk) hu hu2 hi hzr m hk0 (by omega) (by omega) (by omega)
   have hrun' : (execOp a.eval ⟨some i, .call { callee := .builtin .append, args := ⟨[xa, xb]⟩, argTypes := ⟨[t, t2]⟩ }, type, pos, after, guard⟩).run P w = .ok (.value (.slice (some ⟨w.heap.size, 0, none⟩) m (grownCap w m 0 e'))) (w.drew.alloc (.cells (Builtin.zeroCells z.cells m ++ Builtin.zeroCells z.cells (grownCap w m 0 e' - m)) e')) := by
    simp only [execOp, resolve, Sem.run_bind, List.map_toArray, List.map_cons, List.map_nil, Sem.run_pure, Result.andThen_ok, invoke, builtin, ra, rb, hrun]
   refine wp_val (fun c hc => by cases hc) hrun' ?_
   have hw : Upd (hotOf s.own loc) w (w.drew.alloc (.cells (Builtin.zeroCells z.cells m ++ Builtin.zeroCells z.cells (grownCap w m 0 e' - m)) e')) := (Upd.drew _ w).trans (Upd.alloc _ w.drew _) (fun x hx => .inl hx)
   have hL : ∀ b0, b0 ∈ (⟨[w.heap.size], .slice (some ⟨w.heap.size, 0, none⟩) m (grownCap w m 0 e')⟩ : Loc).blks → b0 < (w.drew.alloc (.cells (Builtin.zeroCells z.cells m ++ Builtin.zeroCells z.cells (grownCap w m 0 e' - m)) e')).heap.size ∧ ((∃ e ∈ s.own, e.id = r ∧ b0 ∈ (loc r).blks) ∨ w.heap.size ≤ b0) := by
    intro b0 hb0
    simp only [List.mem_singleton] at hb0
    subst hb0
    exact ⟨by simp, .inr (Nat.le_refl _)⟩
   have hge := grownCap_ge w m 0 e'
   have hcm := grownCap_le_maxLen w m 0 e' (by unfold maxLen; omega)
   refine hn _ _ _ (R.up (id := r) (r := r) (n := r) (obj := .row e' ti.size ti.bytes (List.replicate m (z.cells.toList.map ofV1))) (L := ⟨[w.heap.size], .slice (some ⟨w.heap.size, 0, none⟩) m (grownCap w m 0 e')⟩) hlim (fun j hj => by simp only [Option.some.injEq] at hj; subst hj; simpa [dstOK] using hd) hw (fun b hb _ => by simp only [World.alloc, Array.getElem?_push, World.drew]; rw [if_neg (by omega)]) hL (.inl (Nat.le_refl _)) ⟨by simpa using hbs, .inr ⟨w.heap.size, _, _, rfl, by simp, heap_alloc_new w.drew _, by simpa using hge, hcm, ?_, ?_⟩⟩ ?_)
   ·simp only [Array.size_append, size_zeroCells, hzl, ← Nat.add_mul]
    congr 1
    omega
   ·refine rd_zeros hzl hone _ _ fun q p hq hp => ?_
    rw [Nat.zero_add]
    have hlt : q * ti.size + p < (Builtin.zeroCells z.cells m).size := by
     rw [size_zeroCells, hzl]
     have := mul_lt_row (k := ti.size) hq; omega
    rw [Array.getElem?_append_left hlt]
    have := madeCells_row (z := z.cells) (n := m) (i := q) (q := p) (by omega) (by omega) (by omega)
    rw [hzl] at this
    have e1 : Builtin.zeroCells z.cells m = madeCells z.cells (m * ti.size) := by rw [← hzl]; rfl
    rw [e1]
    exact this
   ·simp only [rd]
    intro lc hl'
    rw [curOf_up] at hl'
    simp only [Option.some.injEq] at hl'
    rw [← hl']
def mpOf : DObj → Option (List DVal × List DVal)
 | .map ks vs => some (ks, vs)
 | .mapD ks vs => some (ks, vs)
 | _ => none
def delRes (P : Program) (own : List Ent) (l : List DVal) (ts : List TypeId) : Option (DVal × Ent) := match l, ts with
 | [m, k], [t, _] => (match m, tMap P t with
  | .omp id r', some (kt, _) => (match findE own id with
   | some en => (match mpOf en.obj with
    | some (ks, vs) => if en.r == r' && keyOK P kt k && ks.all (keyOK P kt) then some (.tup [], ⟨id, r', .mapD (delK ks k) (delV ks vs k)⟩) else none
    | none => none)
   | none => none)
  | _, _ => none)
 | _, _ => none
theorem mpOf_ok {cur : Cur} {M : List Nat} {h : Array Obj} {l : Loc} {obj : DObj} {ks vs : List DVal} (hm : mpOf obj = some (ks, vs)) (hk : ObjOK cur M h l obj) :
  (∃ b es clk, l.blks = [b] ∧ h[b]? = some (.map es clk) ∧ bornOK es clk ∧ rdV cur M h ks (es.toList.map (·.key)) ∧ rdV cur M h vs (es.toList.map (·.val))) ∧ mxL ks ≤ mxO obj ∧ mxL vs ≤ mxO obj := by
 cases obj <;> simp only [mpOf, Option.some.injEq, Prod.mk.injEq, reduceCtorEq] at hm
 ·obtain ⟨rfl, rfl⟩ := hm
  obtain ⟨b, es, clk, h1, h2, h3, h4, h5⟩ := hk
  exact ⟨⟨b, es, clk, h1, h2, h3.ok, h4, h5⟩, by simp only [mxO]; omega, by simp only [mxO]; omega⟩
 ·obtain ⟨rfl, rfl⟩ := hm
  exact ⟨hk, by simp only [mxO]; omega, by simp only [mxO]; omega⟩
theorem mpOf_mx {obj : DObj} {ks vs : List DVal} (hm : mpOf obj = some (ks, vs)) : mxL ks ≤ mxO obj ∧ mxL vs ≤ mxO obj := by
 cases obj <;> simp only [mpOf, Option.some.injEq, Prod.mk.injEq, reduceCtorEq] at hm
 ·obtain ⟨rfl, rfl⟩ := hm
  simp only [mxO]; omega
 ·obtain ⟨rfl, rfl⟩ := hm
  simp only [mxO]; omega
theorem del_sem {o : Oper} {c : Call} {ed : Operand → DVal} {own : List Ent} {r : Nat} {d : DVal} {en : Ent} (ho : o.op = .call c) (hcal : c.callee = .builtin .delete) (h : delRes P own (c.args.toList.map ed) c.argTypes.toList = some (d, en)) :
  SemF P o ed own r d (upE own en.id en.r en.obj) (r + 1) := by
 unfold delRes at h
 split at h
 rotate_left
 ·simp at h
 rename_i m0 k0 t t2 hargs hts
 split at h
 rotate_left
 ·simp at h
 rename_i id r' kt et ht
 split at h
 rotate_left
 ·simp at h
 rename_i e he
 split at h
 rotate_left
 ·simp at h
 rename_i ks vs hob
 split at h
 rotate_left
 ·simp at h
 rename_i hc
 simp only [Bool.and_eq_true, beq_iff_eq] at hc
 obtain ⟨⟨her, hko⟩, hkall⟩ := hc
 simp only [Option.some.injEq, Prod.mk.injEq] at h
 obtain ⟨rfl, rfl⟩ := h
 have hmO := (mem_mxE (findE_ent he).1)
 have hmx := mpOf_mx hob
 have hdk := mxL_delK ks k0
 have hdv := mxL_delV ks vs k0
 constructor
 ·intro h1 h2
  refine ⟨by omega, by simp [mx, mxL], Nat.le_trans (mxE_upE _ _ _ _) ?_⟩
  simp only [mxO]
  omega
 ·rintro B s a w loc next Q R rfl hlim hd hed hmd hn
  obtain ⟨dst, op, type, pos, after, guard⟩ := o
  simp only at ho hd hn
  subst ho
  obtain ⟨cal, ⟨al⟩, ⟨tl⟩⟩ := c
  simp only at hcal hed hmd
  have hts : tl = [t, t2] := hts
  have hargs2 : al.map ed = [.omp id r', k0] := hargs
  clear hargs
  subst hcal
  subst hts
  obtain ⟨xa, xb, rfl⟩ : ∃ xa xb, al = [xa, xb] := by
   have hl : al.length = 2 := by simpa using congrArg List.length hargs2
   cases al with
   | nil => simp at hl
   | cons xa al => cases al with
    | nil => simp at hl
    | cons xb al => cases al with
     | nil => exact ⟨_, _, rfl⟩
     | cons _ _ => simp at hl
  simp only [List.map_cons, List.map_nil, List.cons.injEq, and_true] at hargs2
  obtain ⟨hxa, hxb⟩ := hargs2
  have ha := hed xa (by simp [Op.operands, Call.operands])
  have hk := hed xb (by simp [Op.operands, Call.operands])
  rw [hxa] at ha
  rw [hxb] at hk
  have hlim' := hlim
  unfold lim at hlim'
  obtain ⟨hmem, hid⟩ := findE_ent he
  have hob' := R.st.ok e hmem
  obtain ⟨⟨b, es, clk, h1, h2, h3, h4, h5⟩, _⟩ := mpOf_ok hob hob'
  rw [hid] at h1
  have hcur : curOf s.own loc id r' = some (loc id) := by unfold curOf; rw [he]; simp [her]
  simp only [Rds, rd] at ha
  obtain ⟨b', hb', hmv⟩ := ha _ hcur
  rw [h1] at hb'
  simp only [List.cons.injEq, and_true] at hb'
  subst hb'
  have hu : P.underlying t = some (.map kt et) := by unfold tMap at ht; split at ht <;> simp_all
  have hfind := run_findKey (w := w) hko hk es.toList ks hkall h4
  have hlen1 := rdV_length _ _ h4
  simp only [List.length_map, Array.length_toList] at hlen1
  have hlt : ∀ i, dst = some i → i < B.nt := fun i hi => by subst hi; simpa [dstOK] using hd
  have main : ∀ (es' : Array MapEntry), (Builtin.delete_ #[t, t2] type #[a.eval xa, a.eval xb]).run P w = .ok (.tuple #[]) { w with heap := w.heap.setIfInBounds b (.map es' clk) } → bornOK es' clk → rdV (cu s loc) (hm s loc B.M0) w.heap (delK ks k0) (es'.toList.map (·.key)) → rdV (cu s loc) (hm s loc B.M0) w.heap (delV ks vs k0) (es'.toList.map (·.val)) → (Oper.mk dst (.call { callee := .builtin .delete, args := ⟨[xa, xb]⟩, argTypes := ⟨[t, t2]⟩ }) type pos after guard).wpIn (wd B.ro) 0 P a w next Q := by
   intro es' hr hb hk1 hv1
   have hrun : (execOp a.eval ⟨dst, .call { callee := .builtin .delete, args := ⟨[xa, xb]⟩, argTypes := ⟨[t, t2]⟩ }, type, pos, after, guard⟩).run P w = .ok (.value (.tuple #[])) { w with heap := w.heap.setIfInBounds b (.map es' clk) } := by
    simp only [execOp, resolve, Sem.run_bind, List.map_toArray, List.map_cons, List.map_nil, Sem.run_pure, Result.andThen_ok, invoke, builtin, hr]
   refine wp_val (fun c hc => by cases hc) hrun (hn _ _ (upL loc id (loc id)) ?_)
   exact R.newEsD (n := r) he her h1 h2 hb hk1 hv1 (by omega) (by omega) hlim hlt (by simp only [rd]; exact ⟨#[], rfl, by simp [rdV]⟩) (by simp [mx, mxL])
  cases hq : lookI ks k0 with
  | none =>
   refine main es ?_ h3 (by unfold delK; rw [hq]; exact h4) (by unfold delV; rw [hq]; exact h5)
   simp only [Builtin.delete_, List.size_toArray, Sem.run_bind, run_underlying hu, Result.andThen_ok, hmv, MapKept.run_getObj_map h2, run_checkKey' hko hk, hfind, List.getElem?_toArray, List.getElem?_cons_zero, List.getElem?_cons_succ, hq, Option.map_none, MapKept.run_setObj_map _ h2, Sem.run_pure]
  | some j =>
   have hto : (es.eraseIdxIfInBounds j).toList = es.toList.eraseIdx j := by simp
   refine main (es.eraseIdxIfInBounds j) ?_ ⟨?_, ?_⟩ ?_ ?_
   ·simp only [Builtin.delete_, List.size_toArray, Sem.run_bind, run_underlying hu, Result.andThen_ok, hmv, MapKept.run_getObj_map h2, run_checkKey' hko hk, hfind, List.getElem?_toArray, List.getElem?_cons_zero, List.getElem?_cons_succ, hq, Option.map_some, MapKept.run_setObj_map _ h2, Sem.run_pure]
   ·rw [hto]; exact h3.1.sublist ((List.eraseIdx_sublist _ _).map _)
   ·intro e' he'
    rw [hto] at he'
    exact h3.2 e' ((List.eraseIdx_sublist _ _).subset he')
   ·unfold delK; rw [hq, hto, map_erase]; exact rdV_erase j h4
   ·unfold delV; rw [hq, hto, map_erase]; exact rdV_erase j h5
theorem Rel.newTy {id n k bs : Nat} {cs : List DVal} {us : List Value} {ty : TypeId} {dst : Option Nat} (R : Rel B s a w loc) (hlim : lim B s ≤ n) (hmx : mxL cs ≤ n) (hdst : ∀ i, dst = some i → i < B.nt)
  (hus : rdV (cu s loc) (hm s loc B.M0) w.heap cs us) (hone : ∀ u ∈ us, u.oneCell' = true) (hk : cs.length = k) (hbs : bs ≤ 150000000000000) :
  Rel B ⟨putS s.slots dst (.rx id n k 0 0), upE s.own id n (.row ty k bs [cs])⟩ (a.put dst (.pointer (some ⟨w.heap.size, 0, none⟩))) (w.alloc (.cells us.toArray ty)) (upL loc id ⟨[w.heap.size], .slice (some ⟨w.heap.size, 0, none⟩) 1 1⟩) := by
 have hw := Upd.alloc' (hotOf s.own loc) w (.cells us.toArray ty)
 have hL : ∀ b, b ∈ (⟨[w.heap.size], .slice (some ⟨w.heap.size, 0, none⟩) 1 1⟩ : Loc).blks → b < (w.alloc (.cells us.toArray ty)).heap.size ∧ ((∃ e ∈ s.own, e.id = id ∧ b ∈ (loc id).blks) ∨ w.heap.size ≤ b) := by
  intro b hb
  simp only [List.mem_singleton] at hb
  subst hb
  exact ⟨by simp, .inr (Nat.le_refl _)⟩
 have W := R.weakUp (obj := .row ty k bs [cs]) hlim hw hL (.inl (Nat.le_refl _))
 have hul := rdV_length _ _ hus
 refine R.up hlim hdst hw (fun b hb _ => by simp only [World.alloc, Array.getElem?_push]; rw [if_neg (by omega)]) hL (.inl (Nat.le_refl _)) ?_ ?_
 ·refine ⟨by simpa using hbs, .inr ⟨w.heap.size, us.toArray, 1, rfl, rfl, heap_alloc_new w _, by simp, by unfold maxLen; omega, by simp; omega, ?_⟩⟩
  have := rdR_of (cur := curOf (upE s.own id n (.row ty k bs [cs])) (upL loc id ⟨[w.heap.size], .slice (some ⟨w.heap.size, 0, none⟩) 1 1⟩)) (M := hotOf (upE s.own id n (.row ty k bs [cs])) (upL loc id ⟨[w.heap.size], .slice (some ⟨w.heap.size, 0, none⟩) 1 1⟩) ++ B.M0) (H := (w.alloc (.cells us.toArray ty)).heap) k [cs] [us] [] rfl (by
   intro i c u hc hu
   cases i with
   | zero =>
    simp only [List.getElem?_cons_zero, Option.some.injEq] at hc hu
    subst hc; subst hu
    exact ⟨hk, rdV_weak W cs us hmx hus, hone⟩
   | succ i => simp at hc)
  simpa using this
 ·simp only [rd]
  intro l hl
  rw [curOf_up] at hl
  simp only [Option.some.injEq] at hl
  subst hl
  exact ⟨_, rfl, by simp⟩
def bldT (P : Program) (t : TypeId) : Bool := match P.underlying t with
 | some (.struct fs) => fs.size == 2 && (match fs[0]? with
  | some f => (match P.underlying f.type with
   | some (.pointer e) => e == t
   | _ => false)
  | none => false)
 | _ => false
def tyRes (P : Program) (dst : Option Nat) (r : Nat) (t : TypeId) : Option (DVal × Ent) := match bldT P t with
 | true => (match tZero P t, dst with
  | some z, some _ => if z.all (oneO []) && z.length == 2 then some (.rx r r 2 0 0, ⟨r, r, .row t 2 32 [z]⟩) else none
  | _, _ => none)
 | false => none
theorem ty_sem {o : Oper} {t : TypeId} {ed : Operand → DVal} {own : List Ent} {r : Nat} {d : DVal} {en : Ent} (ho : o.op = .alloc t) (h : tyRes P o.dst r t = some (d, en)) :
  SemF P o ed own r d (upE own en.id en.r en.obj) (r + 1) := by
 unfold tyRes at h
 split at h
 rotate_left
 ·simp at h
 split at h
 rotate_left
 ·simp at h
 rename_i z i hz hdst0
 split at h
 rotate_left
 ·simp at h
 rename_i hc
 simp only [Bool.and_eq_true, beq_iff_eq] at hc
 simp only [Option.some.injEq, Prod.mk.injEq] at h
 obtain ⟨rfl, rfl⟩ := h
 have hmx : mxL z = 0 := tZero_mx hz
 constructor
 ·intro h1 h2
  refine ⟨by omega, by simp [mx], Nat.le_trans (mxE_upE _ _ _ _) ?_⟩
  simp only [mxO, mxR]; omega
 ·rintro B s a w loc next Q R rfl hlim hd hed hmd hn
  obtain ⟨dst, op, type, pos, after, guard⟩ := o
  simp only at ho hd hn hdst0
  subst ho
  subst hdst0
  obtain ⟨zv, hzr, rfl⟩ := tZero_ok (w := w) hz
  have hus : rdV (cu s loc) (hm s loc B.M0) w.heap (zv.cells.toList.map ofV1) zv.cells.toList := rdV_map_ofV1 _
  have hone := oneO_all R.st (zv.cells.toList.map ofV1) zv.cells.toList (List.all_eq_true.2 fun d hd => oneO_nil (List.all_eq_true.1 hc.1 d hd)) hus
  have R' := R.newTy (id := r) (n := r) (k := 2) (bs := 32) (ty := t) (dst := some i) hlim (by omega) (fun j hj => by simp only [Option.some.injEq] at hj; subst hj; simpa [dstOK] using hd) hus hone hc.2 (by decide)
  have hrun : (execOp a.eval ⟨some i, .alloc t, type, pos, after, guard⟩).run P w = .ok (.value (.pointer (some ⟨w.heap.size, 0, none⟩))) (w.alloc (.cells zv.cells.toList.toArray t)) := by
   simp [execOp, Instr.alloc, hzr, newVar, newRow]
  exact wp_val (fun c hc => by cases hc) hrun (hn _ _ _ R')
end
end Go.Dm
end
