/- Parts of a proof, laid together: EnF, EnG. -/
import Derived.Sort.LoopGhostIn
import Derived.RangeFuncCalls
import Derived.RangeFuncLeaves
import Derived.OrdersIn
import Derived.Orders
import Derived.Test.YtedjakmhhlilaaaGreatqGx5
set_option linter.unusedSimpArgs false
set_option linter.unusedVariables false
set_option linter.unusedSectionVars false
section
namespace Go.Dm
variable [DMode]
def wd (ro : Option Nat) : Fence := { fn := fun _ => True, depth := none, alive := false, round := ro }
theorem calls_wd {P : Program} {f : FuncId} {args : Array Value} {w : World} {R : Ending → World → Prop} (ro : Option Nat) (n : Nat) (h : Calls P f args w R) : CallsIn (wd ro) n P f args w R := by
 have h := (callsIn_wide (n := n)).2 h
 cases ro with
 | none => exact h
 | some l => exact CallsIn.inRound l h
section
variable (P : Program) (B : Base)
def QQ (Q : Exit → DS → Prop) : Exit → Act → World → Prop := fun e a w => ∃ s loc, Q e s ∧ Rel B s a w loc
def DW (c : Code) (Q : Exit → DS → Prop) (s : DS) : Prop := ∀ a w loc, Rel B s a w loc → c.wpIn (wd B.ro) 0 P (QQ B Q) a w
def Dthen (K : DS → Prop) (Q : Exit → DS → Prop) : Exit → DS → Prop
 | .normal, s => K s
 | e, s => Q e s
def Dblock (id : Nat) (Q : Exit → DS → Prop) : Exit → DS → Prop
 | .exit id', s => if id' = id then Q .normal s else Q (.exit id') s
 | e, s => Q e s
def Sub (s s' : DS) : Prop := ∀ a w loc, Rel B s a w loc → ∃ loc', Rel B s' a w loc'
end
section
variable {P : Program} {B : Base} {Q : Exit → DS → Prop} {s s' : DS}
theorem DW_sub {c : Code} (h : Sub B s s') (hw : DW P B c Q s') : DW P B c Q s := fun a w loc R =>
 let ⟨loc', R'⟩ := h a w loc R; hw a w loc' R'
theorem DW_seq {x y : Code} (h : ∀ K : DS → Prop, (∀ s, DW P B y Q s → K s) → DW P B x (Dthen K Q) s) : DW P B (.seq x y) Q s := by
 intro a w loc R
 refine wpIn_seq (wpIn_mono (h (fun s => DW P B y Q s) (fun _ h => h) a w loc R) ?_)
 rintro e a' w' ⟨s', loc', hq, R'⟩
 cases e <;> first
  | exact hq a' w' loc' R'
  | exact ⟨s', loc', hq, R'⟩
theorem DW_skip (h : Q .normal s) : DW P B .skip Q s := fun a w loc R => wpIn_skip ⟨s, loc, h, R⟩
theorem DW_exit {id : Nat} (h : Q (.exit id) s) : DW P B (.exit id) Q s := fun a w loc R => wpIn_exit ⟨s, loc, h, R⟩
theorem DW_ret (h : Q .ret s) : DW P B .ret Q s := fun a w loc R => wpIn_ret ⟨s, loc, h, R⟩
theorem DW_label {l : Nat} (h : Q .normal s) : DW P B (.label l) Q s := fun a w loc R => wpIn_label ⟨s, loc, h, R⟩
theorem DW_block {id : Nat} {c : Code} (h : DW P B c (Dblock id Q) s) : DW P B (.block id c) Q s := by
 intro a w loc R
 refine wpIn_block (wpIn_mono (h a w loc R) ?_)
 rintro e a' w' ⟨s', loc', hq, R'⟩
 cases e <;> try exact ⟨s', loc', hq, R'⟩
 rename_i id'
 simp only [Dblock] at hq
 simp only [Exit.inBlock]
 split
 ·rename_i h; rw [if_pos h] at hq; exact ⟨s', loc', hq, R'⟩
 ·rename_i h; rw [if_neg h] at hq; exact ⟨s', loc', hq, R'⟩
theorem Rel.ev {a : Act} {w : World} {loc : Nat → Loc} (R : Rel B s a w loc) (x : Operand) : Rds s loc B.M0 w (ev s.slots x) (a.eval x) := rd_ev R.sl x
theorem DW_cond {c : Operand} {x y : Code} {b : Bool} (hc : ev s.slots c = .bool b) (ht : b = true → DW P B x Q s) (hf : b = false → DW P B y Q s) : DW P B (.cond c x y) Q s := by
 intro a w loc R
 have h := R.ev c
 rw [hc] at h
 simp only [Rds, rd] at h
 exact wpIn_cond_split h (fun hb => ht hb a w loc R) (fun hb => hf hb a w loc R)
def Again (B : Base) {X : Type} (S : X → DS) (μ : X → Nat) (n : Nat) (s' : DS) : Prop := ∃ x', Sub B s' (S x') ∧ μ x' < n
theorem Again.mk {X : Type} {S : X → DS} {μ : X → Nat} {n : Nat} (x' : X) (h : Sub B s' (S x')) (hm : μ x' < n) : Again B S μ n s' := ⟨x', h, hm⟩
end
def Enters (P : Program) (f : FuncId) : Prop := ∀ args w, (callFunc f args).run P w = .ok (.enter f args) w
def DPure (P : Program) (f : FuncId) (args : List DVal) (d : DVal) : Prop :=
 Enters P f ∧ mx d = 0 ∧ ∀ (cur : Cur) (M : List Nat) (w : World) (vs : Array Value), (∀ b ∈ M, b < w.heap.size) → rdV cur M w.heap args vs.toList →
  Calls P f vs w fun e w' => ∃ v, e = .returned v ∧ Upd [] w w' ∧ rd cur M w'.heap d v
mutual
def wfD : DVal → Prop
 | .int k n => inR k n
 | .str s => s.size ≤ maxLen
 | .ref cs => wfL cs
 | .sl _ bs es => es.length * bs ≤ 150000000000000 ∧ es.length ≤ maxLen ∧ wfR es
 | .mp ks vs => wfL ks ∧ wfL vs
 | .fn _ us cs => wfL us ∧ wfL cs
 | .ifc _ d => wfD d
 | .agg cs => wfL cs
 | .tup cs => wfL cs
 | _ => True
def wfL : List DVal → Prop
 | [] => True
 | d :: ds => wfD d ∧ wfL ds
def wfR : List (List DVal) → Prop
 | [] => True
 | cs :: es => wfL cs ∧ wfR es
end
section
variable {cur : Cur} {M : List Nat} {h : Array Obj}
mutual
theorem rd_wf : ∀ (d : DVal) (v : Value), rd cur M h d v → wfD d
 | .any, _, _ => by simp [wfD]
 | .undef, _, _ => by simp [wfD]
 | .sel _ _, _, _ => by simp [wfD]
 | .bool _, _, _ => by simp [wfD]
 | .int _ _, _, hr => by simp only [rd] at hr; simp only [wfD]; exact hr.2
 | .str _, _, hr => by simp only [rd] at hr; simp only [wfD]; exact hr.2
 | .nilp, _, _ => by simp [wfD]
 | .ref cs, v, hr => by
  simp only [rd] at hr
  obtain ⟨b, off, arr, ty, fz, _, _, _, h4⟩ := hr
  simp only [wfD]
  exact rdC_wf cs arr off h4
 | .bx _ _ _, _, _ => by simp [wfD]
 | .rx _ _ _ _ _, _, _ => by simp [wfD]
 | .nilsl, _, _ => by simp [wfD]
 | .esl, _, _ => by simp [wfD]
 | .sl k bs es, v, hr => by
  simp only [rd] at hr
  obtain ⟨a, cap, h1, h2, h2', h2'', h3⟩ := hr
  simp only [wfD]
  refine ⟨h2'', Nat.le_trans h2 h2', ?_⟩
  rcases h3 with ⟨rfl, _⟩ | ⟨b, off, arr, ty, fz, g1, g2, g3, g4⟩
  ·simp [wfR]
  ·exact rdR_wf k es arr off g4
 | .osl _ _, _, _ => by simp [wfD]
 | .vw _ _ _ _ _ _, _, _ => by simp [wfD]
 | .nilmp, _, _ => by simp [wfD]
 | .mp ks vs, v, hr => by
  simp only [rd] at hr
  obtain ⟨_, es, _, _, _, _, _, h5, h6⟩ := hr
  simp only [wfD]
  exact ⟨rdV_wf ks _ h5, rdV_wf vs _ h6⟩
 | .omp _ _, _, _ => by simp [wfD]
 | .pk _ _, _, _ => by simp [wfD]
 | .nilfn, _, _ => by simp [wfD]
 | .fn f us cs, v, hr => by
  simp only [rd] at hr
  obtain ⟨us', cs', h1, h2, h3⟩ := hr
  simp only [wfD]
  exact ⟨rdV_wf us _ h2, rdV_wf cs _ h3⟩
 | .nilifc, _, _ => by simp [wfD]
 | .ifc t d, v, hr => by
  simp only [rd] at hr
  obtain ⟨u, h1, h2⟩ := hr
  simp only [wfD]
  exact rd_wf d u h2
 | .agg cs, v, hr => by
  simp only [rd] at hr
  obtain ⟨us, h1, h2⟩ := hr
  simp only [wfD]
  exact rdV_wf cs _ h2
 | .tup cs, v, hr => by
  simp only [rd] at hr
  obtain ⟨us, h1, h2⟩ := hr
  simp only [wfD]
  exact rdV_wf cs _ h2
theorem rdC_wf : ∀ (ds : List DVal) (arr : Array Value) (o : Nat), rdC cur M h ds arr o → wfL ds
 | [], _, _, _ => by simp [wfL]
 | d :: ds, arr, o, hr => by
  simp only [rdC] at hr
  obtain ⟨⟨v, _, _, h2⟩, h3⟩ := hr
  simp only [wfL]
  exact ⟨rd_wf d v h2, rdC_wf ds arr _ h3⟩
theorem rdR_wf : ∀ (k : Nat) (es : List (List DVal)) (arr : Array Value) (o : Nat), rdR cur M h k es arr o → wfR es
 | _, [], _, _, _ => by simp [wfR]
 | k, cs :: es, arr, o, hr => by
  simp only [rdR] at hr
  obtain ⟨_, h2, h3⟩ := hr
  simp only [wfR]
  exact ⟨rdC_wf cs arr o h2, rdR_wf k es arr _ h3⟩
theorem rdV_wf : ∀ (ds : List DVal) (vs : List Value), rdV cur M h ds vs → wfL ds
 | [], _, _ => by simp [wfL]
 | d :: ds, vs, hr => by
  simp only [rdV] at hr
  obtain ⟨v, r, _, h2, h3⟩ := hr
  simp only [wfL]
  exact ⟨rd_wf d v h2, rdV_wf ds r h3⟩
end
end
def isE : DVal → Bool
 | .sl _ _ [] => true
 | _ => false
def wk1 (d d' : DVal) : Prop := d = d' ∨ ((d = .nilsl ∨ d = .esl) ∧ isE d' = true)
def wkL : List DVal → List DVal → Prop
 | [], [] => True
 | d :: ds, e :: es => wk1 d e ∧ wkL ds es
 | _, _ => False
def wk : DVal → DVal → Prop
 | .tup a, .tup b => wkL a b
 | .agg a, .agg b => wkL a b
 | d, d' => wk1 d d'
section
variable {cur : Cur} {M : List Nat} {h : Array Obj}
theorem rd_wk1 {d d' : DVal} {v : Value} (hw : wk1 d d') (hr : rd cur M h d v) : rd cur M h d' v := by
 rcases hw with rfl | ⟨hd, he⟩
 ·exact hr
 ·unfold isE at he
  split at he
  ·rcases hd with rfl | rfl
   ·simp only [rd] at hr ⊢
    subst hr
    exact ⟨none, 0, rfl, by simp, by unfold maxLen; omega, by simp, .inl ⟨by simp, fun _ => rfl⟩⟩
   ·simp only [rd] at hr ⊢
    obtain ⟨ad, cap, rfl, hc⟩ := hr
    exact ⟨some ad, cap, rfl, by simp, hc, by simp, .inl ⟨by simp, by simp⟩⟩
  ·simp at he
theorem rd_wkL : ∀ {ds es : List DVal} {vs : List Value}, wkL ds es → rdV cur M h ds vs → rdV cur M h es vs
 | [], [], _, _, hr => hr
 | d :: ds, e :: es, vs, hw, hr => by
  simp only [wkL] at hw
  simp only [rdV] at hr ⊢
  obtain ⟨v, r, rfl, h1, h2⟩ := hr
  exact ⟨v, r, rfl, rd_wk1 hw.1 h1, rd_wkL hw.2 h2⟩
theorem rd_wk {d d' : DVal} {v : Value} (hw : wk d d') (hr : rd cur M h d v) : rd cur M h d' v := by
 unfold wk at hw
 split at hw
 ·simp only [rd] at hr ⊢
  obtain ⟨us, rfl, h1⟩ := hr
  exact ⟨us, rfl, rd_wkL hw h1⟩
 ·simp only [rd] at hr ⊢
  obtain ⟨us, rfl, h1⟩ := hr
  exact ⟨us, rfl, rd_wkL hw h1⟩
 ·exact rd_wk1 hw hr
end
def wkA : List DVal → List DVal → Prop
 | [], [] => True
 | d :: ds, e :: es => wk d e ∧ wkA ds es
 | _, _ => False
theorem rd_wkA {cur : Cur} {M : List Nat} {h : Array Obj} : ∀ {ds es : List DVal} {vs : List Value}, wkA ds es → rdV cur M h ds vs → rdV cur M h es vs
 | [], [], _, _, hr => hr
 | [], _ :: _, _, hw, _ => hw.elim
 | _ :: _, [], _, hw, _ => hw.elim
 | d :: ds, e :: es, vs, hw, hr => by
  simp only [rdV] at hr ⊢
  obtain ⟨v, r, rfl, h1, h2⟩ := hr
  exact ⟨v, r, rfl, rd_wk hw.1 h1, rd_wkA hw.2 h2⟩
structure Cont where
 f : DS → Prop
structure ContV where
 f : DVal → Prop
structure ContE where
 f : DVal → List Ent → Prop
def callP (P : Program) (g : FuncId) (args : List DVal) (K : ContV) : Prop := ∃ args' d, wkA args args' ∧ DPure P g args' d ∧ K.f d
def gB : DVal → Bool → Bool
 | .bool t, true => t
 | .bool t, false => !t
 | .sel c (.bool t), true => c && t
 | .sel c (.bool t), false => c && !t
 | _, _ => false
def gOK : DVal → Bool
 | .bool _ => true
 | .sel _ (.bool _) => true
 | .undef => true
 | _ => false
def strip : DVal → DVal
 | .sel _ d => d
 | d => d
def okG (c : Bool) : DVal → Prop
 | .sel c' _ => c = true → c' = true
 | _ => True
def okL (c : Bool) (e : Operand → DVal) : List Operand → Prop
 | [] => True
 | x :: r => okG c (e x) ∧ okL c e r
def okOp (c : Bool) (e : Operand → DVal) (op : Op) : Prop := match op with
 | .pick x a b => okG c (e x) ∧ ∀ t, strip (e x) = .bool t → (t = true → okG c (e a)) ∧ (t = false → okG c (e b))
 | op => okL c e op.operands.toList
def stripE (l : List (Nat × DVal)) (x : Operand) : DVal := strip (ev l x)
def dstOK (nt : Nat) : Option Nat → Bool
 | none => true
 | some i => decide (i < nt)
def callee (e : Operand → DVal) (c : Call) : Option (FuncId × List DVal) :=
 match c.callee with
 | .value f => match e f with
  | .fn (.func g) us cs => some (g, us ++ c.args.toList.map e ++ cs)
  | _ => none
 | _ => none
section
variable (P : Program) (nt : Nat)
def kD (K : Cont) (s : DS) (dst : Option Nat) : ContV := ⟨fun d => K.f ⟨putS s.slots dst d, s.own⟩⟩
def kG (K : Cont) (c : Bool) (s : DS) (dst : Option Nat) : ContV := ⟨fun d => K.f ⟨putS s.slots dst (.sel c d), s.own⟩⟩
theorem kD_f (K : Cont) (s : DS) (dst : Option Nat) (d : DVal) : (kD K s dst).f d = K.f ⟨putS s.slots dst d, s.own⟩ := id rfl
theorem kG_f (K : Cont) (c : Bool) (s : DS) (dst : Option Nat) (d : DVal) : (kG K c s dst).f d = K.f ⟨putS s.slots dst (.sel c d), s.own⟩ := id rfl
def callG (c : Bool) (g : FuncId) (args : List DVal) (K : ContV) : Prop := match c with
 | true => callP P g args K
 | false => K.f .any
def dOpG (c : Bool) (o : Oper) (s : DS) (K : Cont) : Prop :=
 dstOK nt o.dst = true ∧ okOp c (ev s.slots) o.op ∧ match o.op with
  | .call cl => match callee (stripE s.slots) cl with
   | some (g, args) => callG P c g args (kG K c s o.dst)
   | none => (c = true → nPre P s.own (stripE s.slots) o.op) ∧ K.f ⟨putS s.slots o.dst (.sel c (nVal P s.own (stripE s.slots) o.op)), s.own⟩
  | op => (c = true → nPre P s.own (stripE s.slots) op) ∧ K.f ⟨putS s.slots o.dst (.sel c (nVal P s.own (stripE s.slots) op)), s.own⟩
def gSlot (ops : Array Oper) (s : DS) (j : Nat) : DVal := match (ops[j]?).bind (·.dst) with | some t => getS s.slots t | none => .any
end
section
variable {P : Program} {B : Base} {s : DS} {a : Act} {w : World} {loc : Nat → Loc}
theorem dst_lt {o : Oper} (h : dstOK B.nt o.dst = true) : ∀ i, o.dst = some i → i < B.nt := by
 intro i hi
 rw [hi] at h
 simpa [dstOK] using h
theorem Rel.lt (R : Rel B s a w loc) : ∀ b ∈ hm s loc B.M0, b < w.heap.size := R.st.lt
theorem run_call {o : Oper} {c : Call} (ho : o.op = .call c) {ρ : Operand → Value} {M0 : List Nat} {e : Operand → DVal} (hρ : ∀ x ∈ c.operands, Rds s loc M0 w (e x) (ρ x)) {g : FuncId} {args : List DVal} (hc : callee e c = some (g, args)) (he : Enters P g) :
  ∃ vs : Array Value, (execOp ρ o).run P w = .ok (.enter g vs) w ∧ rdV (cu s loc) (hm s loc M0) w.heap args vs.toList := by
 obtain ⟨dst, op, type, pos, after, guard⟩ := o
 simp only at ho
 subst ho
 obtain ⟨cal, ars, ats⟩ := c
 unfold callee at hc
 cases cal with
 | value f =>
  simp only at hc
  split at hc
  ·rename_i g' us cs hf
   simp only [Option.some.injEq, Prod.mk.injEq] at hc
   obtain ⟨rfl, rfl⟩ := hc
   have hx := hρ f (by simp [Call.operands])
   rw [hf] at hx
   simp only [Rds, rd] at hx
   obtain ⟨us', cs', hv, h1, h2⟩ := hx
   have key : ∀ l : List Operand, (∀ x ∈ l, Rds s loc M0 w (e x) (ρ x)) → rdV (cu s loc) (hm s loc M0) w.heap (l.map e) (l.map ρ) := by
    intro l
    induction l with
    | nil => intro _; simp [rdV]
    | cons x l ih => intro hl; simp only [List.map_cons, rdV]; exact ⟨_, _, rfl, hl x List.mem_cons_self, ih fun y hy => hl y (List.mem_cons_of_mem _ hy)⟩
   refine ⟨us' ++ ars.map ρ ++ cs', ?_, ?_⟩
   ·simp only [execOp, resolve, hv, Deferred.ofValue, Sem.run_bind, Sem.run_pure, Result.andThen_ok, invoke]
    exact he _ _
   ·simp only [Array.toList_append, Array.toList_map]
    exact rdV_append _ _ _ _ (rdV_append _ _ _ _ h1 (key _ fun x hx => hρ x (by simp [Call.operands]; right; simpa using hx))) h2
  ·simp at hc
 | invoke r m => simp at hc
 | builtin b => simp at hc
theorem n_congr0 {own : List Ent} {e e' : Operand → DVal} (op : Op) (h : ∀ x ∈ op.operands, e x = e' x) : (nPre P own e op ↔ nPre P own e' op) ∧ nVal P own e op = nVal P own e' op := by
 have parts : ∀ (ps : Array (Nat × Operand)), (∀ x ∈ (ps.toList.map (·.2)).toArray, e x = e' x) → ∀ p ∈ ps.toList, e p.2 = e' p.2 := by
  intro ps h p hp
  exact h p.2 (by simpa using ⟨p.1, by simpa using hp⟩)
 cases op <;> simp only [Op.operands] at h <;> simp only [nPre, nVal]
 case move x => exact ⟨trivial, h x (by simp)⟩
 case assign x => exact ⟨trivial, h x (by simp)⟩
 case pick c a b =>
  have h1 := h c (by simp); have h2 := h a (by simp); have h3 := h b (by simp)
  simp only [h1, h2, h3, and_self]
 case build t ps =>
  have hp := parts ps h
  have e1 : (ps.toList.map fun p => (p.1, e p.2)) = ps.toList.map fun p => (p.1, e' p.2) := List.map_congr_left fun p hm => by rw [hp p hm]
  have e2 : (ps.toList.all fun p => plainD own (e p.2)) = ps.toList.all fun p => plainD own (e' p.2) := by
   rw [Bool.eq_iff_iff, List.all_eq_true, List.all_eq_true]
   constructor <;> intro hq p hm <;> have := hq p hm
   ·rw [← hp p hm]; exact this
   ·rw [hp p hm]; exact this
  simp only [e1, e2, and_self]
 case buildSlice t n ps =>
  have hp := parts ps h
  have e1 : (ps.toList.map fun p => cellsD (e p.2)) = ps.toList.map fun p => cellsD (e' p.2) := List.map_congr_left fun p hm => by rw [hp p hm]
  have e2 : ∀ k, (ps.toList.all fun p => plainD own (e p.2) && (cellsD (e p.2)).length == k) = ps.toList.all fun p => plainD own (e' p.2) && (cellsD (e' p.2)).length == k := by
   intro k
   rw [Bool.eq_iff_iff, List.all_eq_true, List.all_eq_true]
   constructor <;> intro hq p hm <;> have := hq p hm
   ·rw [← hp p hm]; exact this
   ·rw [hp p hm]; exact this
  simp only [e1, e2, and_self]
 case makeFunc f us cs =>
  have e1 : us.toList.map e = us.toList.map e' := List.map_congr_left fun x hx => h x (by simp; left; simpa using hx)
  have e2 : cs.toList.map e = cs.toList.map e' := List.map_congr_left fun x hx => h x (by simp; right; simpa using hx)
  simp only [e1, e2, and_self]
 case call c =>
  have e1 : c.args.toList.map e = c.args.toList.map e' := List.map_congr_left fun x hx => h x (by simp [Call.operands]; right; simpa using hx)
  cases c.callee <;> simp only [e1, and_self]
 case slice t x l h' m =>
  have hx := h x (by simp)
  have hi : ∀ (d : Int) (o : Option Operand), (o = l ∨ o = h' ∨ o = m) → ixV e d o = ixV e' d o := by
   intro d o ho
   cases o with
   | none => rfl
   | some y =>
    have : e y = e' y := h y (by
     simp only [Array.mem_append]
     rcases ho with ho | ho | ho <;> subst ho <;> simp)
    simp only [ixV, this]
  have h1 : ∀ d, ixV e d l = ixV e' d l := fun d => hi d l (by simp)
  have h2 : ∀ d, ixV e d h' = ixV e' d h' := fun d => hi d h' (by simp)
  have h3 : ∀ d, ixV e d m = ixV e' d m := fun d => hi d m (by simp)
  have h4 : ∀ n, sliceP e n l h' m ↔ sliceP e' n l h' m := fun n => by simp only [sliceP, h1, h2, h3]
  have h5 : ∀ n, sliceP e n l h' none ↔ sliceP e' n l h' none := fun n => by simp only [sliceP, h1, h2, show ∀ d, ixV e d none = ixV e' d none from fun _ => rfl]
  simp only [hx, h1, h2, h4, h5, and_self]
 all_goals simp_all
theorem neu_wp {o : Oper} {e : Operand → DVal} {d : DVal} {K : DS → Prop} {next : Act → World → Prop} {Q : Exit → Act → World → Prop} (R : Rel B s a w loc) (hd : dstOK B.nt o.dst = true) (he : ∀ x ∈ o.op.operands, Rds s loc B.M0 w (e x) (a.eval x)) (hp : nPre P s.own e o.op)
  (hk : K ⟨putS s.slots o.dst d, s.own⟩) (hdv : ∀ (w' : World) (v : Value), rd (cu s loc) (hm s loc B.M0) w'.heap (nVal P s.own e o.op) v → rd (cu s loc) (hm s loc B.M0) w'.heap d v) (hn : ∀ s' a' w' loc', K s' → Rel B s' a' w' loc' → next a' w') : o.wpIn (wd B.ro) 0 P a w next Q := by
 classical
 have hc := n_congr0 (P := P) (own := s.own) (e := e) (e' := fun x => if x ∈ o.op.operands then e x else .any) o.op (fun x hx => by simp [hx])
 obtain ⟨v, w', h1, h2, h3⟩ := neu_sound (P := P) (ρ := a.eval) (M0 := B.M0) (o := o) (e := fun x => if x ∈ o.op.operands then e x else .any) R.st (fun x => by
  by_cases hx : x ∈ o.op.operands
  ·simp only [if_pos hx]; exact he x hx
  ·simp only [if_neg hx, Rds, rd]) (hc.1.1 hp)
 rw [← hc.2] at h3
 refine ⟨fun _ _ => trivial, ?_⟩
 rw [Oper.semAt_eq _ _ _ (fun c hc => by rw [hc] at hp; simp only [nPre] at hp), h1, Oper.uponIn_value]
 exact hn _ _ _ loc hk (R.put (dst_lt hd) h2 (hdv _ _ h3))
theorem okL_ok {l : List (Nat × DVal)} {ρ : Operand → Value} {M0 : List Nat} (hρ : ∀ x, Rds s loc M0 w (ev l x) (ρ x)) : ∀ xs : List Operand, okL true (ev l) xs → ∀ x ∈ xs, Rds s loc M0 w (stripE l x) (ρ x)
 | [], _, x, hx => by cases hx
 | y :: ys, h, x, hx => by
  simp only [okL] at h
  rcases List.mem_cons.1 hx with rfl | hx
  ·have := hρ x
   unfold stripE
   cases hq : ev l x <;> rw [hq] at this h <;> simp only [strip] <;> try exact this
   simp only [okG] at h
   simp only [Rds, rd] at this
   exact this.1 (h.1 trivial)
  ·exact okL_ok hρ ys h.2 x hx
theorem pickV_any1 (x : DVal) : pickV true x .any = x := by
 cases x <;> try rfl
 rename_i c d
 cases d <;> rfl
theorem pickV_any2 (y : DVal) : pickV false .any y = y := by
 cases y <;> rfl
theorem rd_pickV {cur : Cur} {M : List Nat} {h : Array Obj} {t : Bool} {x y : DVal} {v : Value} (hok : pickOK t x y) (hv : rd cur M h (if t then x else y) v) : rd cur M h (pickV t x y) v := by
 unfold pickV
 split
 ·cases t <;> exact hv
 ·cases t
  ·simp only [pickOK] at hok
   simp only [Bool.false_eq_true, if_false, rd] at hv ⊢
   exact hv.1 (hok trivial)
  ·exact hv
 ·cases t
  ·exact hv
  ·simp only [pickOK] at hok
   simp only [if_true, rd] at hv ⊢
   exact hv.1 (hok trivial)
 ·cases t <;> exact hv
theorem okG_ok {l : List (Nat × DVal)} {ρ : Operand → Value} {M0 : List Nat} {x : Operand} (hρ : Rds s loc M0 w (ev l x) (ρ x)) (h : okG true (ev l x)) : Rds s loc M0 w (stripE l x) (ρ x) := by
 unfold stripE
 cases hq : ev l x <;> rw [hq] at hρ h <;> simp only [strip] <;> try exact hρ
 simp only [okG] at h
 simp only [Rds, rd] at hρ
 exact hρ.1 (h trivial)
theorem okOp_ok {l : List (Nat × DVal)} {ρ : Operand → Value} {M0 : List Nat} {op : Op} {own : List Ent} (hρ : ∀ x, Rds s loc M0 w (ev l x) (ρ x)) (hok : okOp true (ev l) op) (hp : nPre P own (stripE l) op) :
  ∃ e' : Operand → DVal, (∀ x ∈ op.operands, Rds s loc M0 w (e' x) (ρ x)) ∧ nPre P own e' op ∧ ∀ cur M h v, rd cur M h (nVal P own e' op) v → rd cur M h (nVal P own (stripE l) op) v := by
 classical
 by_cases hpk : ∃ x a b, op = .pick x a b
 ·obtain ⟨x, a, b, rfl⟩ := hpk
  simp only [okOp] at hok
  obtain ⟨h1, h2⟩ := hok
  simp only [nPre] at hp
  cases hx : stripE l x <;> rw [hx] at hp <;> try exact hp.elim
  rename_i t
  have h2 := h2 t hx
  refine ⟨fun y => if okG true (ev l y) then stripE l y else .any, ?_, ?_, ?_⟩
  ·intro y _
   simp only
   split
   ·rename_i hy; exact okG_ok (hρ y) hy
   ·simp only [Rds, rd]
  ·simp only [nPre, if_pos h1, hx]
   cases t
   ·rw [if_pos (h2.2 rfl)]
    split
    ·exact hp
    ·cases stripE l b <;> simp [pickOK]
   ·rw [if_pos (h2.1 rfl)]
    split
    ·exact hp
    ·cases hsa : stripE l a <;> simp only [pickOK]
  ·intro cur M h v
   simp only [nVal, if_pos h1, hx]
   cases t
   ·rw [if_pos (h2.2 rfl)]
    split
    ·exact id
    ·rw [pickV_any2]
     exact fun hv => rd_pickV hp hv
   ·rw [if_pos (h2.1 rfl)]
    split
    ·exact id
    ·rw [pickV_any1]
     exact fun hv => rd_pickV hp hv
 ·have hok' : okL true (ev l) op.operands.toList := by
   unfold okOp at hok
   split at hok
   ·exact absurd ⟨_, _, _, rfl⟩ hpk
   ·exact hok
  exact ⟨stripE l, fun x hx => okL_ok hρ _ hok' x (by simpa using hx), hp, fun _ _ _ _ h => h⟩
theorem guard_ok {ops : Array Oper} {j : Nat} {want : Bool} (R : Rel B s a w loc) (hg : gOK (gSlot ops s j) = true) : (yielded ops a.tmps j == some want) = gB (gSlot ops s j) want := by
 unfold gSlot at hg ⊢
 cases ht : (ops[j]?).bind (·.dst) with
 | none => simp [ht, gOK] at hg
 | some t =>
  simp only [ht] at hg ⊢
  have hs := R.sl t
  have hy : yielded ops a.tmps j = match a.tmps[t]? with | some (.bool b) => some b | _ => none := by
   unfold yielded
   rw [ht]
   rfl
  have hnone : a.tmps.getD t Go.undef = Go.undef → yielded ops a.tmps j = none := by
   intro hs
   rw [hy]
   cases hq : a.tmps[t]? with
   | none => rfl
   | some v =>
    simp only [Array.getD_eq_getD_getElem?, hq, Option.getD_some] at hs
    subst hs; rfl
  have hsome : ∀ b, a.tmps.getD t Go.undef = .bool b → yielded ops a.tmps j = some b := by
   intro b hs
   rw [hy]
   cases hq : a.tmps[t]? with
   | none => simp [Array.getD_eq_getD_getElem?, hq, Go.undef] at hs
   | some v =>
    simp only [Array.getD_eq_getD_getElem?, hq, Option.getD_some] at hs
    subst hs; rfl
  cases hd : getS s.slots t <;> rw [hd] at hg hs <;> try (simp [gOK] at hg; done)
  ·simp only [rd] at hs
   rw [hnone hs]; cases want <;> rfl
  ·rename_i c d
   cases d <;> try (simp [gOK] at hg; done)
   rename_i b
   simp only [rd] at hs
   cases c
   ·rw [hnone (hs.2 rfl)]; cases want <;> rfl
   ·rw [hsome b (hs.1 rfl)]; cases want <;> cases b <;> rfl
  ·rename_i b
   simp only [rd] at hs
   rw [hsome b hs]; cases want <;> cases b <;> rfl
end
section
variable {P : Program} {own : List Ent} {e e' : Operand → DVal}
theorem callee_congr {c : Call} (h : ∀ x ∈ c.operands, e x = e' x) : callee e c = callee e' c := by
 unfold callee
 have hargs : c.args.toList.map e = c.args.toList.map e' := List.map_congr_left fun x hx => h x (by simp [Call.operands]; right; simpa using hx)
 cases hc : c.callee with
 | value f => have hf : e f = e' f := h f (by simp [Call.operands, hc]); simp only [hf, hargs]
 | invoke r m => rfl
 | builtin b => rfl
theorem okOp_congr {c : Bool} {op : Op} (h : ∀ x ∈ op.operands, e x = e' x) (hk : okOp c e op) : okOp c e' op := by
 have gen : ∀ xs : List Operand, (∀ x ∈ xs, e x = e' x) → okL c e xs → okL c e' xs := by
  intro xs
  induction xs with
  | nil => intro _ _; trivial
  | cons x xs ih =>
   intro hx hq
   simp only [okL] at hq ⊢
   exact ⟨by rw [← hx x List.mem_cons_self]; exact hq.1, ih (fun y hy => hx y (List.mem_cons_of_mem _ hy)) hq.2⟩
 unfold okOp at hk ⊢
 split at hk
 ·rename_i x a b
  simp only [Op.operands] at h
  rw [h x (by simp), h a (by simp), h b (by simp)] at hk
  exact hk
 ·exact gen _ (fun x hx => h x (by simpa using hx)) hk
end
def maskOf (o : Oper) (acc : List Nat) : Nat := o.after.toList.foldl (fun s e => if Region.binds .any e then s ||| 2 ^ e.on ||| acc.getD e.on 0 else s) 0
def masks : List Oper → List Nat → List Nat
 | [], acc => acc
 | o :: r, acc => masks r (acc ++ [maskOf o acc])
def drawOK (ops : Array Oper) : Bool :=
 let m := masks ops.toList []
 let zs := ops.toList.zipIdx
 (zs.all fun p => zs.all fun q => p.1.dst == none || p.1.dst != q.1.dst || p.2 == q.2) &&
 (zs.all fun p => p.1.after.toList.all fun e => !Region.binds .any e || decide (e.on < p.2)) &&
 zs.all fun p => (p.1.looksAt ops).all fun t => zs.all fun q => q.1.dst != some t || (decide (q.2 < p.2) && (m.getD p.2 0).testBit q.2) || (decide (p.2 < q.2) && (m.getD q.2 0).testBit p.2)
structure DrawSpec (ops : Array Oper) : Prop where
 one : ∀ (k k' : Nat) (o o' : Oper) (t : Nat), ops[k]? = some o → ops[k']? = some o' → o.dst = some t → o'.dst = some t → k = k'
 acy : ∀ (k : Nat) (o : Oper), ops[k]? = some o → ∀ e ∈ o.after, Region.binds .any e = true → e.on < k
 ord : ∀ (j : Nat) (o : Oper) (t : Nat), ops[j]? = some o → t ∈ o.looksAt ops → ∀ (k : Nat) (o' : Oper), ops[k]? = some o' → o'.dst = some t →
  (k < j ∧ ((masks ops.toList []).getD j 0).testBit k = true) ∨ (j < k ∧ ((masks ops.toList []).getD k 0).testBit j = true)
theorem drawOK_spec {ops : Array Oper} (h : drawOK ops = true) : DrawSpec ops := by
 unfold drawOK at h
 simp only [Bool.and_eq_true, List.all_eq_true] at h
 obtain ⟨⟨h1, h2⟩, h3⟩ := h
 have mem : ∀ (k : Nat) (o : Oper), ops[k]? = some o → (o, k) ∈ ops.toList.zipIdx := by
  intro k o hk
  rw [List.mem_zipIdx_iff_getElem?]
  simpa using hk
 refine ⟨?_, ?_, ?_⟩
 ·intro k k' o o' t hk hk' ht ht'
  have := h1 (o, k) (mem k o hk) (o', k') (mem k' o' hk')
  simpa [ht, ht'] using this
 ·intro k o hk e he hb
  have := h2 (o, k) (mem k o hk) e (by simpa using he)
  simpa [hb] using this
 ·intro j o t hj ht k o' hk hd
  have := h3 (o, j) (mem j o hj) t ht (o', k) (mem k o' hk)
  simpa [hd] using this
theorem maskOf_bit (o : Oper) (acc : List Nat) (j : Nat) (h : (maskOf o acc).testBit j = true) : ∃ e ∈ o.after.toList, Region.binds .any e = true ∧ (j = e.on ∨ (acc.getD e.on 0).testBit j = true) := by
 unfold maskOf at h
 have key : ∀ (l : List Edge) (s : Nat), (l.foldl (fun s e => if Region.binds .any e then s ||| 2 ^ e.on ||| acc.getD e.on 0 else s) s).testBit j = true → s.testBit j = true ∨ ∃ e ∈ l, Region.binds .any e = true ∧ (j = e.on ∨ (acc.getD e.on 0).testBit j = true) := by
  intro l
  induction l with
  | nil => intro s hs; exact .inl hs
  | cons e l ih =>
   intro s hs
   simp only [List.foldl_cons] at hs
   rcases ih _ hs with h1 | ⟨e', he', h2⟩
   ·split at h1
    ·rename_i hb
     rw [Nat.testBit_or, Nat.testBit_or, Bool.or_eq_true, Bool.or_eq_true] at h1
     rcases h1 with (h1 | h1) | h1
     ·exact .inl h1
     ·rw [Nat.testBit_two_pow] at h1
      exact .inr ⟨e, List.mem_cons_self, hb, .inl (by simpa using h1 : e.on = j).symm⟩
     ·exact .inr ⟨e, List.mem_cons_self, hb, .inr h1⟩
    ·exact .inl h1
   ·exact .inr ⟨e', List.mem_cons_of_mem _ he', h2⟩
 rcases key _ 0 h with h1 | h1
 ·simp at h1
 ·exact h1
theorem masks_at : ∀ (l : List Oper) (acc : List Nat) (k : Nat), (masks l acc).getD k 0 = if k < acc.length then acc.getD k 0 else match l[k - acc.length]? with | some o => maskOf o ((masks l acc).take k) | none => 0
 | [], acc, k => by
  simp only [masks]
  split
  ·rfl
  ·rename_i h; simp [List.getD_eq_getElem?_getD, List.getElem?_eq_none (by omega : acc.length ≤ k)]
 | o :: r, acc, k => by
  simp only [masks]
  rw [masks_at r (acc ++ [maskOf o acc]) k]
  have pre : ∀ (l : List Oper) (a : List Nat), ∃ z, masks l a = a ++ z := by
   intro l
   induction l with
   | nil => intro a; exact ⟨[], by simp [masks]⟩
   | cons o l ih => intro a; obtain ⟨z, hz⟩ := ih (a ++ [maskOf o a]); exact ⟨_, by simp only [masks]; rw [hz, List.append_assoc]⟩
  simp only [List.length_append, List.length_cons, List.length_nil, Nat.zero_add]
  by_cases h1 : k < acc.length
  ·rw [if_pos (by omega), if_pos h1]
   simp [List.getD_eq_getElem?_getD, List.getElem?_append_left h1]
  ·rw [if_neg h1]
   by_cases h2 : k = acc.length
   ·subst h2
    rw [if_pos (by omega)]
    simp only [Nat.sub_self, List.getElem?_cons_zero]
    obtain ⟨z, hz⟩ := pre r (acc ++ [maskOf o acc])
    rw [hz]
    simp [List.getD_eq_getElem?_getD]
   ·rw [if_neg (by omega)]
    have : k - acc.length = (k - (acc.length + 1)) + 1 := by omega
    rw [this, List.getElem?_cons_succ]
def Closed (ops : Array Oper) (S : Nat → Bool) : Prop := ∀ k o, ops[k]? = some o → S k = true → ∀ e ∈ o.after, Region.binds .any e = true → S e.on = true
theorem closed_bit {ops : Array Oper} {S : Nat → Bool} (hc : Closed ops S) : ∀ (k : Nat), S k = true → ∀ j, ((masks ops.toList []).getD k 0).testBit j = true → S j = true := by
 intro k
 induction k using Nat.strongRecOn with
 | _ k ih =>
  intro hk j hj
  rw [masks_at] at hj
  simp only [List.length_nil, Nat.not_lt_zero, if_false, Nat.sub_zero] at hj
  split at hj
  ·rename_i o ho
   obtain ⟨e, he, hb, h1⟩ := maskOf_bit _ _ _ hj
   have hS := hc k o (by simpa using ho) hk e (by simpa using he) hb
   rcases h1 with rfl | h1
   ·exact hS
   ·by_cases hlt : e.on < k
    ·refine ih e.on hlt hS j ?_
     have : ((masks ops.toList []).take k).getD e.on 0 = (masks ops.toList []).getD e.on 0 := by
      simp [List.getD_eq_getElem?_getD, List.getElem?_take_of_lt hlt]
     rwa [this] at h1
    ·have : ((masks ops.toList []).take k).getD e.on 0 = 0 := by
      rw [List.getD_eq_getElem?_getD, List.getElem?_eq_none (by simp; omega)]; rfl
     rw [this] at h1; simp at h1
  ·simp at hj
def OpOK1 (P : Program) (o : Oper) (own : List Ent) (e : Operand → DVal) (d : DVal) : Prop :=
 (∃ c g args, o.op = .call c ∧ callee e c = some (g, args) ∧ DPure P g args d) ∨ (nPre P own e o.op ∧ d = nVal P own e o.op)
def dOpD (P : Program) (nt : Nat) (o : Oper) (s : DS) (K : Cont) : Prop :=
 dstOK nt o.dst = true ∧ match o.op with
  | .call c => match callee (ev s.slots) c with
   | some (g, args) => callP P g args (kD K s o.dst)
   | none => nPre P s.own (ev s.slots) o.op ∧ K.f ⟨putS s.slots o.dst (nVal P s.own (ev s.slots) o.op), s.own⟩
  | op => nPre P s.own (ev s.slots) op ∧ K.f ⟨putS s.slots o.dst (nVal P s.own (ev s.slots) op), s.own⟩
def lexS (l : List (Nat × DVal)) : List (Oper × DVal) → List (Nat × DVal)
 | [] => l
 | (o, d) :: r => lexS (putS l o.dst d) r
def setS (l : List (Nat × DVal)) (S : Nat → Bool) : Nat → List (Oper × DVal) → List (Nat × DVal)
 | _, [] => l
 | i, (o, d) :: r => if S i then putS (setS l S (i + 1) r) o.dst d else setS l S (i + 1) r
theorem getS_putS (l : List (Nat × DVal)) (o : Option Nat) (d : DVal) (t : Nat) : getS (putS l o d) t = if o = some t then d else getS l t := by
 cases o with
 | none => simp [putS]
 | some i =>
  simp only [putS, getS, Option.some.injEq]
  by_cases h : t = i
  ·subst h; simp
  ·rw [if_neg h, if_neg (fun h' => h h'.symm)]
theorem getS_setS_none {l : List (Nat × DVal)} {S : Nat → Bool} {t : Nat} : ∀ (zs : List (Oper × DVal)) (i : Nat), (∀ (k : Nat) (z : Oper × DVal), zs[k]? = some z → z.1.dst = some t → S (i + k) = false) → getS (setS l S i zs) t = getS l t
 | [], _, _ => rfl
 | (o, d) :: r, i, h => by
  have ih := getS_setS_none (l := l) (S := S) (t := t) r (i + 1) (fun k z hz hd => by have := h (k + 1) z (by simpa using hz) hd; rwa [show i + 1 + k = i + (k + 1) by omega])
  simp only [setS]
  split
  ·rename_i hS
   rw [getS_putS, if_neg, ih]
   intro hd
   have := h 0 (o, d) (by simp) hd
   rw [Nat.add_zero] at this
   rw [this] at hS; simp at hS
  ·exact ih
theorem getS_setS_some {l : List (Nat × DVal)} {S : Nat → Bool} {t : Nat} : ∀ (zs : List (Oper × DVal)) (i k : Nat) (z : Oper × DVal), zs[k]? = some z → z.1.dst = some t → S (i + k) = true → (∀ (k' : Nat) (z' : Oper × DVal), zs[k']? = some z' → z'.1.dst = some t → k' = k) → getS (setS l S i zs) t = z.2
 | [], _, _, _, hz, _, _, _ => by simp at hz
 | (o, d) :: r, i, 0, z, hz, hd, hS, _ => by
  simp only [List.getElem?_cons_zero, Option.some.injEq] at hz; subst hz
  simp only [setS]
  rw [Nat.add_zero] at hS
  rw [if_pos hS, getS_putS, if_pos hd]
 | (o, d) :: r, i, k + 1, z, hz, hd, hS, hu => by
  have ih := getS_setS_some (l := l) (S := S) (t := t) r (i + 1) k z (by simpa using hz) hd (by rwa [show i + 1 + k = i + (k + 1) by omega]) (fun k' z' h1 h2 => by have := hu (k' + 1) z' (by simpa using h1) h2; omega)
  have hne : o.dst ≠ some t := fun h => by have := hu 0 (o, d) (by simp) h; omega
  simp only [setS]
  split
  ·rw [getS_putS, if_neg hne, ih]
  ·exact ih
theorem lexS_append (l : List (Nat × DVal)) : ∀ (a b : List (Oper × DVal)), lexS l (a ++ b) = lexS (lexS l a) b
 | [], _ => rfl
 | (o, d) :: a, b => by simp only [List.cons_append, lexS]; exact lexS_append _ a b
theorem getS_lexS_none {t : Nat} : ∀ (zs : List (Oper × DVal)) (l : List (Nat × DVal)), (∀ z ∈ zs, z.1.dst ≠ some t) → getS (lexS l zs) t = getS l t
 | [], _, _ => rfl
 | (o, d) :: r, l, h => by
  simp only [lexS]
  rw [getS_lexS_none r _ (fun z hz => h z (List.mem_cons_of_mem _ hz)), getS_putS, if_neg (h (o, d) List.mem_cons_self)]
theorem getS_lexS_some {t : Nat} : ∀ (zs : List (Oper × DVal)) (l : List (Nat × DVal)) (k : Nat) (z : Oper × DVal), zs[k]? = some z → z.1.dst = some t → (∀ (k' : Nat) (z' : Oper × DVal), zs[k']? = some z' → z'.1.dst = some t → k' = k) → getS (lexS l zs) t = z.2
 | [], _, _, _, hz, _, _ => by simp at hz
 | (o, d) :: r, l, 0, z, hz, hd, hu => by
  simp only [List.getElem?_cons_zero, Option.some.injEq] at hz; subst hz
  simp only [lexS]
  rw [getS_lexS_none, getS_putS, if_pos hd]
  intro z' hz' h
  obtain ⟨k', hk', rfl⟩ := List.getElem_of_mem hz'
  have := hu (k' + 1) _ (by simp only [List.getElem?_cons_succ]; exact List.getElem?_eq_getElem hk') h
  omega
 | (o, d) :: r, l, k + 1, z, hz, hd, hu => by
  simp only [lexS]
  exact getS_lexS_some r _ k z (by simpa using hz) hd (fun k' z' h1 h2 => by have := hu (k' + 1) z' (by simpa using h1) h2; omega)
theorem Rel.congr {B : Base} {l l' : List (Nat × DVal)} {own : List Ent} {a : Act} {w : World} {loc : Nat → Loc} (h : ∀ t, getS l' t = getS l t) (R : Rel B ⟨l, own⟩ a w loc) : Rel B ⟨l', own⟩ a w loc :=
 ⟨R.st, R.upd, R.new, R.ver, fun i => by have := R.sl i; simp only at this ⊢; rw [h i]; exact this, R.nt, R.df⟩
theorem cnt_set (S : Nat → Bool) (i : Nat) (hi : S i = false) : ∀ n, i < n → (List.range n).countP (fun k => if k = i then true else S k) = (List.range n).countP S + 1
 | 0, h => by omega
 | n + 1, h => by
  have same : ∀ m, m ≤ i → (List.range m).countP (fun k => if k = i then true else S k) = (List.range m).countP S := by
   intro m hm
   refine List.countP_congr fun k hk => ?_
   have : k ≠ i := by have := List.mem_range.1 hk; omega
   simp [this]
  rw [List.range_succ, List.countP_append, List.countP_append]
  by_cases h' : i < n
  ·rw [cnt_set S i hi n h']
   have : n ≠ i := by omega
   simp [List.countP_cons, this]; omega
  ·have : n = i := by omega
   subst this
   rw [same n (Nat.le_refl _)]
   simp [List.countP_cons, hi]
section
variable {P : Program} {B : Base} {s : DS}
theorem ev_congr {l l' : List (Nat × DVal)} {x : Operand} (h : ∀ t, x = .tmp t → getS l t = getS l' t) : ev l x = ev l' x := by
 cases x <;> first | rfl | exact h _ rfl
end
end Go.Dm
end
