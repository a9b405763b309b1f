/- The data machine, second make, part F: rules for statements; pure contracts. -/
import Derived.Test.YtihkcegelghcpaaEnE
import Derived.Sort.LoopGhostIn
import Derived.RangeFuncCalls
import Derived.RangeFuncLeaves
import Derived.OrdersIn
set_option linter.unusedSimpArgs false
set_option linter.unusedVariables false
namespace Go.Dm

/-- No fence but the round in which one is. -/
def wd (ro : Option Nat) : Fence := { fn := fun _ => True, depth := none, alive := false, round := ro }
theorem calls_wd {P : Program} {f : FuncId} {args : Array Value} {w : World} {R : Ending → World → Prop} (ro : Option Nat) (n : Nat) (h : Calls P f args w R) : CallsIn (wd ro) n P f args w R := by
  have h := (callsIn_wide (n := n)).2 h
  cases ro with
  | none => exact h
  | some l => exact CallsIn.inRound l h

section
variable (P : Program) (B : Base)

def QQ (Q : Exit → DS → Prop) : Exit → Act → World → Prop := fun e a w => ∃ s loc, Q e s ∧ Rel B s a w loc

def DW (c : Code) (Q : Exit → DS → Prop) (s : DS) : Prop := ∀ a w loc, Rel B s a w loc → c.wpIn (wd B.ro) 0 P (QQ B Q) a w

def Dthen (K : DS → Prop) (Q : Exit → DS → Prop) : Exit → DS → Prop
  | .normal, s => K s
  | e, s => Q e s

def Dblock (id : Nat) (Q : Exit → DS → Prop) : Exit → DS → Prop
  | .exit id', s => if id' = id then Q .normal s else Q (.exit id') s
  | e, s => Q e s

def Sub (s s' : DS) : Prop := ∀ a w loc, Rel B s a w loc → ∃ loc', Rel B s' a w loc'
end

section
variable {P : Program} {B : Base} {Q : Exit → DS → Prop} {s s' : DS}

theorem DW_sub {c : Code} (h : Sub B s s') (hw : DW P B c Q s') : DW P B c Q s := fun a w loc R =>
  let ⟨loc', R'⟩ := h a w loc R; hw a w loc' R'

theorem DW_seq {x y : Code} (h : ∀ K : DS → Prop, (∀ s, DW P B y Q s → K s) → DW P B x (Dthen K Q) s) : DW P B (.seq x y) Q s := by
  intro a w loc R
  refine wpIn_seq (wpIn_mono (h (fun s => DW P B y Q s) (fun _ h => h) a w loc R) ?_)
  rintro e a' w' ⟨s', loc', hq, R'⟩
  cases e <;> first
    | exact hq a' w' loc' R'
    | exact ⟨s', loc', hq, R'⟩

theorem DW_skip (h : Q .normal s) : DW P B .skip Q s := fun a w loc R => wpIn_skip ⟨s, loc, h, R⟩
theorem DW_exit {id : Nat} (h : Q (.exit id) s) : DW P B (.exit id) Q s := fun a w loc R => wpIn_exit ⟨s, loc, h, R⟩
theorem DW_ret (h : Q .ret s) : DW P B .ret Q s := fun a w loc R => wpIn_ret ⟨s, loc, h, R⟩
theorem DW_label {l : Nat} (h : Q .normal s) : DW P B (.label l) Q s := fun a w loc R => wpIn_label ⟨s, loc, h, R⟩
theorem DW_goto {l : Nat} (h : Q (.goto l) s) : DW P B (.goto l) Q s := fun a w loc R => wpIn_goto ⟨s, loc, h, R⟩

theorem DW_block {id : Nat} {c : Code} (h : DW P B c (Dblock id Q) s) : DW P B (.block id c) Q s := by
  intro a w loc R
  refine wpIn_block (wpIn_mono (h a w loc R) ?_)
  rintro e a' w' ⟨s', loc', hq, R'⟩
  cases e <;> try exact ⟨s', loc', hq, R'⟩
  rename_i id'
  simp only [Dblock] at hq
  simp only [Exit.inBlock]
  split
  · rename_i h; rw [if_pos h] at hq; exact ⟨s', loc', hq, R'⟩
  · rename_i h; rw [if_neg h] at hq; exact ⟨s', loc', hq, R'⟩

theorem Rel.ev {a : Act} {w : World} {loc : Nat → Loc} (R : Rel B s a w loc) (x : Operand) : Rds s loc B.M0 w (ev s.slots x) (a.eval x) := rd_ev R.sl x

theorem DW_cond {c : Operand} {x y : Code} {b : Bool} (hc : ev s.slots c = .bool b) (ht : b = true → DW P B x Q s) (hf : b = false → DW P B y Q s) : DW P B (.cond c x y) Q s := by
  intro a w loc R
  have h := R.ev c
  rw [hc] at h
  simp only [Rds, rd] at h
  exact wpIn_cond_split h (fun hb => ht hb a w loc R) (fun hb => hf hb a w loc R)

/-- the loop's head once more, at a smaller measure -/
def Again (B : Base) {X : Type} (S : X → DS) (μ : X → Nat) (n : Nat) (s' : DS) : Prop := ∃ x', Sub B s' (S x') ∧ μ x' < n
theorem Again.mk {X : Type} {S : X → DS} {μ : X → Nat} {n : Nat} (x' : X) (h : Sub B s' (S x')) (hm : μ x' < n) : Again B S μ n s' := ⟨x', h, hm⟩

theorem DW_loop {c : Code} {X : Type} (S : X → DS) (μ : X → Nat) (x₀ : X) (h₀ : Sub B s (S x₀))
    (round : ∀ x, DW P B c (Dthen (Again B S μ (μ x)) Q) (S x)) : DW P B (.loop c) Q s := by
  intro a w loc R
  refine wpIn_loop_ghost (fun n a w => ∃ x loc, μ x = n ∧ Rel B (S x) a w loc) (μ x₀) ?_ ?_
  · obtain ⟨loc', R'⟩ := h₀ a w loc R
    exact ⟨x₀, loc', rfl, R'⟩
  · rintro n a w ⟨x, loc, rfl, R⟩
    refine wpIn_mono (round x a w loc R) ?_
    rintro e a' w' ⟨s', loc', hq, R'⟩
    cases e <;> try exact ⟨s', loc', hq, R'⟩
    obtain ⟨x', hs, hlt⟩ := hq
    obtain ⟨loc'', R''⟩ := hs a' w' loc' R'
    exact ⟨μ x', hlt, x', loc'', rfl, R''⟩

end

/-! ### Pure contracts -/

def Enters (P : Program) (f : FuncId) : Prop := ∀ args w, (callFunc f args).run P w = .ok (.enter f args) w

/-- Function f is called with these data: it hands back d; memory has only grown. -/
def DPure (P : Program) (f : FuncId) (args : List DVal) (d : DVal) : Prop :=
  Enters P f ∧ mx d = 0 ∧ ∀ (cur : Cur) (M : List Nat) (w : World) (vs : Array Value), (∀ b ∈ M, b < w.heap.size) → rdV cur M w.heap args vs.toList →
    Calls P f vs w fun e w' => ∃ v, e = .returned v ∧ Upd [] w w' ∧ rd cur M w'.heap d v

mutual
/-- What is known of a datum by itself: numbers fit their kinds, lengths their bounds. -/
def wfD : DVal → Prop
  | .int k n => inR k n
  | .str s => s.size ≤ maxLen
  | .ref cs => wfL cs
  | .sl _ bs es => es.length * bs ≤ 140737488355328 ∧ es.length ≤ maxLen ∧ wfR es
  | .mp ks vs => wfL ks ∧ wfL vs
  | .fn _ us cs => wfL us ∧ wfL cs
  | .ifc _ d => wfD d
  | .agg cs => wfL cs
  | .tup cs => wfL cs
  | _ => True
def wfL : List DVal → Prop
  | [] => True
  | d :: ds => wfD d ∧ wfL ds
def wfR : List (List DVal) → Prop
  | [] => True
  | cs :: es => wfL cs ∧ wfR es
end

section
variable {cur : Cur} {M : List Nat} {h : Array Obj}
mutual
theorem rd_wf : ∀ (d : DVal) (v : Value), rd cur M h d v → wfD d
  | .any, _, _ => by simp [wfD]
  | .undef, _, _ => by simp [wfD]
  | .sel _ _, _, _ => by simp [wfD]
  | .bool _, _, _ => by simp [wfD]
  | .int _ _, _, hr => by simp only [rd] at hr; simp only [wfD]; exact hr.2
  | .str _, _, hr => by simp only [rd] at hr; simp only [wfD]; exact hr.2
  | .nilp, _, _ => by simp [wfD]
  | .ref cs, v, hr => by
    simp only [rd] at hr
    obtain ⟨b, off, arr, ty, fz, _, _, _, h4⟩ := hr
    simp only [wfD]
    exact rdC_wf cs arr off h4
  | .bx _ _ _, _, _ => by simp [wfD]
  | .rx _ _ _ _ _, _, _ => by simp [wfD]
  | .nilsl, _, _ => by simp [wfD]
  | .esl, _, _ => by simp [wfD]
  | .sl k bs es, v, hr => by
    simp only [rd] at hr
    obtain ⟨a, cap, h1, h2, h2', h2'', h3⟩ := hr
    simp only [wfD]
    refine ⟨h2'', Nat.le_trans h2 h2', ?_⟩
    rcases h3 with ⟨rfl, _⟩ | ⟨b, off, arr, ty, fz, g1, g2, g3, g4⟩
    · simp [wfR]
    · exact rdR_wf k es arr off g4
  | .osl _ _, _, _ => by simp [wfD]
  | .vw _ _ _ _ _ _, _, _ => by simp [wfD]
  | .nilmp, _, _ => by simp [wfD]
  | .mp ks vs, v, hr => by
    simp only [rd] at hr
    obtain ⟨_, es, _, _, _, _, _, h5, h6⟩ := hr
    simp only [wfD]
    exact ⟨rdV_wf ks _ h5, rdV_wf vs _ h6⟩
  | .omp _ _, _, _ => by simp [wfD]
  | .pk _ _, _, _ => by simp [wfD]
  | .nilfn, _, _ => by simp [wfD]
  | .fn f us cs, v, hr => by
    simp only [rd] at hr
    obtain ⟨us', cs', h1, h2, h3⟩ := hr
    simp only [wfD]
    exact ⟨rdV_wf us _ h2, rdV_wf cs _ h3⟩
  | .nilifc, _, _ => by simp [wfD]
  | .ifc t d, v, hr => by
    simp only [rd] at hr
    obtain ⟨u, h1, h2⟩ := hr
    simp only [wfD]
    exact rd_wf d u h2
  | .agg cs, v, hr => by
    simp only [rd] at hr
    obtain ⟨us, h1, h2⟩ := hr
    simp only [wfD]
    exact rdV_wf cs _ h2
  | .tup cs, v, hr => by
    simp only [rd] at hr
    obtain ⟨us, h1, h2⟩ := hr
    simp only [wfD]
    exact rdV_wf cs _ h2
theorem rdC_wf : ∀ (ds : List DVal) (arr : Array Value) (o : Nat), rdC cur M h ds arr o → wfL ds
  | [], _, _, _ => by simp [wfL]
  | d :: ds, arr, o, hr => by
    simp only [rdC] at hr
    obtain ⟨⟨v, _, _, h2⟩, h3⟩ := hr
    simp only [wfL]
    exact ⟨rd_wf d v h2, rdC_wf ds arr _ h3⟩
theorem rdR_wf : ∀ (k : Nat) (es : List (List DVal)) (arr : Array Value) (o : Nat), rdR cur M h k es arr o → wfR es
  | _, [], _, _, _ => by simp [wfR]
  | k, cs :: es, arr, o, hr => by
    simp only [rdR] at hr
    obtain ⟨_, h2, h3⟩ := hr
    simp only [wfR]
    exact ⟨rdC_wf cs arr o h2, rdR_wf k es arr _ h3⟩
theorem rdV_wf : ∀ (ds : List DVal) (vs : List Value), rdV cur M h ds vs → wfL ds
  | [], _, _ => by simp [wfL]
  | d :: ds, vs, hr => by
    simp only [rdV] at hr
    obtain ⟨v, r, _, h2, h3⟩ := hr
    simp only [wfL]
    exact ⟨rd_wf d v h2, rdV_wf ds r h3⟩
end
end

def isE : DVal → Bool
  | .sl _ _ [] => true
  | _ => false
/-- less is said: of an empty slice, not whether it is nil -/
def wk1 (d d' : DVal) : Prop := d = d' ∨ ((d = .nilsl ∨ d = .esl) ∧ isE d' = true)
def wkL : List DVal → List DVal → Prop
  | [], [] => True
  | d :: ds, e :: es => wk1 d e ∧ wkL ds es
  | _, _ => False
def wk : DVal → DVal → Prop
  | .tup a, .tup b => wkL a b
  | .agg a, .agg b => wkL a b
  | d, d' => wk1 d d'

section
variable {cur : Cur} {M : List Nat} {h : Array Obj}
theorem rd_wk1 {d d' : DVal} {v : Value} (hw : wk1 d d') (hr : rd cur M h d v) : rd cur M h d' v := by
  rcases hw with rfl | ⟨hd, he⟩
  · exact hr
  · unfold isE at he
    split at he
    · rcases hd with rfl | rfl
      · simp only [rd] at hr ⊢
        subst hr
        exact ⟨none, 0, rfl, by simp, by unfold maxLen; omega, by simp, .inl ⟨by simp, fun _ => rfl⟩⟩
      · simp only [rd] at hr ⊢
        obtain ⟨ad, cap, rfl, hc⟩ := hr
        exact ⟨some ad, cap, rfl, by simp, hc, by simp, .inl ⟨by simp, by simp⟩⟩
    · simp at he
theorem rd_wkL : ∀ {ds es : List DVal} {vs : List Value}, wkL ds es → rdV cur M h ds vs → rdV cur M h es vs
  | [], [], _, _, hr => hr
  | d :: ds, e :: es, vs, hw, hr => by
    simp only [wkL] at hw
    simp only [rdV] at hr ⊢
    obtain ⟨v, r, rfl, h1, h2⟩ := hr
    exact ⟨v, r, rfl, rd_wk1 hw.1 h1, rd_wkL hw.2 h2⟩
theorem rd_wk {d d' : DVal} {v : Value} (hw : wk d d') (hr : rd cur M h d v) : rd cur M h d' v := by
  unfold wk at hw
  split at hw
  · simp only [rd] at hr ⊢
    obtain ⟨us, rfl, h1⟩ := hr
    exact ⟨us, rfl, rd_wkL hw h1⟩
  · simp only [rd] at hr ⊢
    obtain ⟨us, rfl, h1⟩ := hr
    exact ⟨us, rfl, rd_wkL hw h1⟩
  · exact rd_wk1 hw hr
end


def wkA : List DVal → List DVal → Prop
  | [], [] => True
  | d :: ds, e :: es => wk d e ∧ wkA ds es
  | _, _ => False
theorem rd_wkA {cur : Cur} {M : List Nat} {h : Array Obj} : ∀ {ds es : List DVal} {vs : List Value}, wkA ds es → rdV cur M h ds vs → rdV cur M h es vs
  | [], [], _, _, hr => hr
  | [], _ :: _, _, hw, _ => hw.elim
  | _ :: _, [], _, hw, _ => hw.elim
  | d :: ds, e :: es, vs, hw, hr => by
    simp only [rdV] at hr ⊢
    obtain ⟨v, r, rfl, h1, h2⟩ := hr
    exact ⟨v, r, rfl, rd_wk hw.1 h1, rd_wkA hw.2 h2⟩

/-- What comes behind, by a name: so that nothing looks into it ahead of its time. -/
structure Cont where
  f : DS → Prop
structure ContV where
  f : DVal → Prop
structure ContE where
  f : DVal → List Ent → Prop

/-- A call of a pure function, ahead of K. -/
def callP (P : Program) (g : FuncId) (args : List DVal) (K : ContV) : Prop := ∃ args' d, wkA args args' ∧ DPure P g args' d ∧ K.f d
theorem wk_refl (d : DVal) : wk d d := by
  have h1 : ∀ d, wk1 d d := fun d => .inl rfl
  have hL : ∀ l, wkL l l := by
    intro l
    induction l with
    | nil => trivial
    | cons d l ih => exact ⟨h1 d, ih⟩
  cases d <;> first
    | exact hL _
    | exact h1 _
theorem wkA_refl : ∀ l, wkA l l
  | [] => trivial
  | d :: l => ⟨wk_refl d, wkA_refl l⟩
theorem callP_mk {P : Program} {g : FuncId} {args : List DVal} {d : DVal} {K : ContV} (h : DPure P g args d) (hk : K.f d) : callP P g args K := ⟨args, d, wkA_refl _, h, hk⟩
theorem callP_wk {P : Program} {g : FuncId} {args args' : List DVal} {d : DVal} {K : ContV} (h : DPure P g args' d) (hw : wkA args args') (hk : K.f d) : callP P g args K := ⟨args', d, hw, h, hk⟩
theorem callP_out {P : Program} {g : FuncId} {args : List DVal} {K : ContV} (h : callP P g args K) : ∃ d, DPure P g args d ∧ K.f d := by
  obtain ⟨args', d, hw, h, hk⟩ := h
  exact ⟨d, ⟨h.1, h.2.1, fun cur M w vs hM hr => h.2.2 cur M w vs hM (rd_wkA hw hr)⟩, hk⟩

/-! ### Regions in the text's order -/

def gB : DVal → Bool → Bool
  | .bool t, true => t
  | .bool t, false => !t
  | .sel c (.bool t), true => c && t
  | .sel c (.bool t), false => c && !t
  | _, _ => false
def gOK : DVal → Bool
  | .bool _ => true
  | .sel _ (.bool _) => true
  | .undef => true
  | _ => false
/-- what a guarded operation's operands are where its guard holds -/
def strip : DVal → DVal
  | .sel _ d => d
  | d => d
def okG (c : Bool) : DVal → Prop
  | .sel c' _ => c = true → c' = true
  | _ => True
def okL (c : Bool) (e : Operand → DVal) : List Operand → Prop
  | [] => True
  | x :: r => okG c (e x) ∧ okL c e r
/-- an operation's operands are there, where the guard holds; of the two that a pick has, the one that it takes -/
def okOp (c : Bool) (e : Operand → DVal) (op : Op) : Prop := match op with
  | .pick x a b => okG c (e x) ∧ ∀ t, strip (e x) = .bool t → (t = true → okG c (e a)) ∧ (t = false → okG c (e b))
  | op => okL c e op.operands.toList
def stripE (l : List (Nat × DVal)) (x : Operand) : DVal := strip (ev l x)

def dstOK (nt : Nat) : Option Nat → Bool
  | none => true
  | some i => decide (i < nt)

/-- what is called, with which arguments -/
def callee (e : Operand → DVal) (c : Call) : Option (FuncId × List DVal) :=
  match c.callee with
  | .value f => match e f with
    | .fn (.func g) us cs => some (g, us ++ c.args.toList.map e ++ cs)
    | _ => none
  | _ => none

section
variable (P : Program) (nt : Nat)

/-- what comes behind a call -/
def kD (K : Cont) (s : DS) (dst : Option Nat) : ContV := ⟨fun d => K.f ⟨putS s.slots dst d, s.own⟩⟩
def kG (K : Cont) (c : Bool) (s : DS) (dst : Option Nat) : ContV := ⟨fun d => K.f ⟨putS s.slots dst (.sel c d), s.own⟩⟩
theorem kD_f (K : Cont) (s : DS) (dst : Option Nat) (d : DVal) : (kD K s dst).f d = K.f ⟨putS s.slots dst d, s.own⟩ := id rfl
theorem kG_f (K : Cont) (c : Bool) (s : DS) (dst : Option Nat) (d : DVal) : (kG K c s dst).f d = K.f ⟨putS s.slots dst (.sel c d), s.own⟩ := id rfl
/-- a call under a guard: made, or passed over -/
def callG (c : Bool) (g : FuncId) (args : List DVal) (K : ContV) : Prop := match c with
  | true => callP P g args K
  | false => K.f .any

/-- The same under a guard c. -/
def dOpG (c : Bool) (o : Oper) (s : DS) (K : Cont) : Prop :=
  dstOK nt o.dst = true ∧ okOp c (ev s.slots) o.op ∧ match o.op with
    | .call cl => match callee (stripE s.slots) cl with
      | some (g, args) => callG P c g args (kG K c s o.dst)
      | none => (c = true → nPre P s.own (stripE s.slots) o.op) ∧ K.f ⟨putS s.slots o.dst (.sel c (nVal P s.own (stripE s.slots) o.op)), s.own⟩
    | op => (c = true → nPre P s.own (stripE s.slots) op) ∧ K.f ⟨putS s.slots o.dst (.sel c (nVal P s.own (stripE s.slots) op)), s.own⟩

def gSlot (ops : Array Oper) (s : DS) (j : Nat) : DVal := match (ops[j]?).bind (·.dst) with | some t => getS s.slots t | none => .any

end

section
variable {P : Program} {B : Base} {s : DS} {a : Act} {w : World} {loc : Nat → Loc}

theorem callG_out {c : Bool} {g : FuncId} {args : List DVal} {K : ContV} (h : callG P c g args K) : ∃ d, (c = true → DPure P g args d) ∧ K.f d := by
  cases c
  · exact ⟨.any, (fun h => by simp at h), h⟩
  · obtain ⟨d, h1, h2⟩ := callP_out h; exact ⟨d, fun _ => h1, h2⟩

theorem dst_lt {o : Oper} (h : dstOK B.nt o.dst = true) : ∀ i, o.dst = some i → i < B.nt := by
  intro i hi
  rw [hi] at h
  simpa [dstOK] using h

theorem Rel.lt (R : Rel B s a w loc) : ∀ b ∈ hm s loc B.M0, b < w.heap.size := R.st.lt

theorem run_call {o : Oper} {c : Call} (ho : o.op = .call c) {ρ : Operand → Value} {M0 : List Nat} {e : Operand → DVal} (hρ : ∀ x ∈ c.operands, Rds s loc M0 w (e x) (ρ x)) {g : FuncId} {args : List DVal} (hc : callee e c = some (g, args)) (he : Enters P g) :
    ∃ vs : Array Value, (execOp ρ o).run P w = .ok (.enter g vs) w ∧ rdV (cu s loc) (hm s loc M0) w.heap args vs.toList := by
  obtain ⟨dst, op, type, pos, after, guard⟩ := o
  simp only at ho
  subst ho
  obtain ⟨cal, as, ats⟩ := c
  unfold callee at hc
  cases cal with
  | value f =>
    simp only at hc
    split at hc
    · rename_i g' us cs hf
      simp only [Option.some.injEq, Prod.mk.injEq] at hc
      obtain ⟨rfl, rfl⟩ := hc
      have hx := hρ f (by simp [Call.operands])
      rw [hf] at hx
      simp only [Rds, rd] at hx
      obtain ⟨us', cs', hv, h1, h2⟩ := hx
      have key : ∀ l : List Operand, (∀ x ∈ l, Rds s loc M0 w (e x) (ρ x)) → rdV (cu s loc) (hm s loc M0) w.heap (l.map e) (l.map ρ) := by
        intro l
        induction l with
        | nil => intro _; simp [rdV]
        | cons x l ih => intro hl; simp only [List.map_cons, rdV]; exact ⟨_, _, rfl, hl x List.mem_cons_self, ih fun y hy => hl y (List.mem_cons_of_mem _ hy)⟩
      refine ⟨us' ++ as.map ρ ++ cs', ?_, ?_⟩
      · simp only [execOp, resolve, hv, Deferred.ofValue, Sem.run_bind, Sem.run_pure, Result.andThen_ok, invoke]
        exact he _ _
      · simp only [Array.toList_append, Array.toList_map]
        exact rdV_append _ _ _ _ (rdV_append _ _ _ _ h1 (key _ fun x hx => hρ x (by simp [Call.operands]; right; simpa using hx))) h2
    · simp at hc
  | invoke r m => simp at hc
  | builtin b => simp at hc

theorem n_congr0 {own : List Ent} {e e' : Operand → DVal} (op : Op) (h : ∀ x ∈ op.operands, e x = e' x) : (nPre P own e op ↔ nPre P own e' op) ∧ nVal P own e op = nVal P own e' op := by
  have parts : ∀ (ps : Array (Nat × Operand)), (∀ x ∈ (ps.toList.map (·.2)).toArray, e x = e' x) → ∀ p ∈ ps.toList, e p.2 = e' p.2 := by
    intro ps h p hp
    exact h p.2 (by simpa using ⟨p.1, by simpa using hp⟩)
  cases op <;> simp only [Op.operands] at h <;> simp only [nPre, nVal]
  case move x => exact ⟨trivial, h x (by simp)⟩
  case assign x => exact ⟨trivial, h x (by simp)⟩
  case pick c a b =>
    have h1 := h c (by simp); have h2 := h a (by simp); have h3 := h b (by simp)
    simp only [h1, h2, h3, and_self]
  case build t ps =>
    have hp := parts ps h
    have e1 : (ps.toList.map fun p => (p.1, e p.2)) = ps.toList.map fun p => (p.1, e' p.2) := List.map_congr_left fun p hm => by rw [hp p hm]
    have e2 : (ps.toList.all fun p => plainD own (e p.2)) = ps.toList.all fun p => plainD own (e' p.2) := by
      rw [Bool.eq_iff_iff, List.all_eq_true, List.all_eq_true]
      constructor <;> intro hq p hm <;> have := hq p hm
      · rw [← hp p hm]; exact this
      · rw [hp p hm]; exact this
    simp only [e1, e2, and_self]
  case buildSlice t n ps =>
    have hp := parts ps h
    have e1 : (ps.toList.map fun p => cellsD (e p.2)) = ps.toList.map fun p => cellsD (e' p.2) := List.map_congr_left fun p hm => by rw [hp p hm]
    have e2 : ∀ k, (ps.toList.all fun p => plainD own (e p.2) && (cellsD (e p.2)).length == k) = ps.toList.all fun p => plainD own (e' p.2) && (cellsD (e' p.2)).length == k := by
      intro k
      rw [Bool.eq_iff_iff, List.all_eq_true, List.all_eq_true]
      constructor <;> intro hq p hm <;> have := hq p hm
      · rw [← hp p hm]; exact this
      · rw [hp p hm]; exact this
    simp only [e1, e2, and_self]
  case makeFunc f us cs =>
    have e1 : us.toList.map e = us.toList.map e' := List.map_congr_left fun x hx => h x (by simp; left; simpa using hx)
    have e2 : cs.toList.map e = cs.toList.map e' := List.map_congr_left fun x hx => h x (by simp; right; simpa using hx)
    simp only [e1, e2, and_self]
  case call c =>
    have e1 : c.args.toList.map e = c.args.toList.map e' := List.map_congr_left fun x hx => h x (by simp [Call.operands]; right; simpa using hx)
    cases c.callee <;> simp only [e1, and_self]
  case slice t x l h' m =>
    have hx := h x (by simp)
    have hi : ∀ (d : Int) (o : Option Operand), (o = l ∨ o = h' ∨ o = m) → ixV e d o = ixV e' d o := by
      intro d o ho
      cases o with
      | none => rfl
      | some y =>
        have : e y = e' y := h y (by
          simp only [Array.mem_append]
          rcases ho with ho | ho | ho <;> subst ho <;> simp)
        simp only [ixV, this]
    have h1 : ∀ d, ixV e d l = ixV e' d l := fun d => hi d l (by simp)
    have h2 : ∀ d, ixV e d h' = ixV e' d h' := fun d => hi d h' (by simp)
    have h3 : ∀ d, ixV e d m = ixV e' d m := fun d => hi d m (by simp)
    have h4 : ∀ n, sliceP e n l h' m ↔ sliceP e' n l h' m := fun n => by simp only [sliceP, h1, h2, h3]
    have h5 : ∀ n, sliceP e n l h' none ↔ sliceP e' n l h' none := fun n => by simp only [sliceP, h1, h2, show ∀ d, ixV e d none = ixV e' d none from fun _ => rfl]
    simp only [hx, h1, h2, h4, h5, and_self]
  all_goals simp_all

theorem neu_wp {o : Oper} {e : Operand → DVal} {d : DVal} {K : DS → Prop} {next : Act → World → Prop} {Q : Exit → Act → World → Prop} (R : Rel B s a w loc) (hd : dstOK B.nt o.dst = true) (he : ∀ x ∈ o.op.operands, Rds s loc B.M0 w (e x) (a.eval x)) (hp : nPre P s.own e o.op)
    (hk : K ⟨putS s.slots o.dst d, s.own⟩) (hdv : ∀ (w' : World) (v : Value), rd (cu s loc) (hm s loc B.M0) w'.heap (nVal P s.own e o.op) v → rd (cu s loc) (hm s loc B.M0) w'.heap d v) (hn : ∀ s' a' w' loc', K s' → Rel B s' a' w' loc' → next a' w') : o.wpIn (wd B.ro) 0 P a w next Q := by
  classical
  have hc := n_congr0 (P := P) (own := s.own) (e := e) (e' := fun x => if x ∈ o.op.operands then e x else .any) o.op (fun x hx => by simp [hx])
  obtain ⟨v, w', h1, h2, h3⟩ := neu_sound (P := P) (ρ := a.eval) (M0 := B.M0) (o := o) (e := fun x => if x ∈ o.op.operands then e x else .any) R.st (fun x => by
    by_cases hx : x ∈ o.op.operands
    · simp only [if_pos hx]; exact he x hx
    · simp only [if_neg hx, Rds, rd]) (hc.1.1 hp)
  rw [← hc.2] at h3
  refine ⟨fun _ _ => trivial, ?_⟩
  rw [Oper.semAt_eq _ _ _ (fun c hc => by rw [hc] at hp; simp only [nPre] at hp), h1, Oper.uponIn_value]
  exact hn _ _ _ loc hk (R.put (dst_lt hd) h2 (hdv _ _ h3))

theorem call_wp {o : Oper} {c : Call} {g : FuncId} {args : List DVal} {e : Operand → DVal} {d d' : DVal} {K : DS → Prop} {next : Act → World → Prop} {Q : Exit → Act → World → Prop} (R : Rel B s a w loc) (hd : dstOK B.nt o.dst = true) (ho : o.op = .call c) (he : ∀ x ∈ o.op.operands, Rds s loc B.M0 w (e x) (a.eval x))
    (hc : callee e c = some (g, args)) (hp : DPure P g args d) (hk : wfD d → K ⟨putS s.slots o.dst d', s.own⟩) (hdv : ∀ (w' : World) (v : Value), rd (cu s loc) (hm s loc B.M0) w'.heap d v → rd (cu s loc) (hm s loc B.M0) w'.heap d' v) (hn : ∀ s' a' w' loc', K s' → Rel B s' a' w' loc' → next a' w') : o.wpIn (wd B.ro) 0 P a w next Q := by
  obtain ⟨vs, h1, h2⟩ := run_call (P := P) (ρ := a.eval) (M0 := B.M0) ho (fun x hx => he x (by rw [ho]; exact hx)) hc hp.1
  refine ⟨fun _ _ => trivial, ?_⟩
  rw [Oper.semAt_eq _ _ _ (fun c' hc' => by rw [ho] at hc'; cases hc'), h1, Oper.uponIn_enter]
  refine ⟨fun h => by simp [wd] at h, calls_wd B.ro _ ?_⟩
  refine (hp.2.2 (cu s loc) (hm s loc B.M0) w vs R.lt h2).mono ?_
  rintro e w' ⟨v, rfl, hu, hr⟩
  exact hn _ _ _ loc (hk (rd_wf _ _ hr)) (R.put (dst_lt hd) hu (hdv _ _ hr))

theorem okL_ok {l : List (Nat × DVal)} {ρ : Operand → Value} {M0 : List Nat} (hρ : ∀ x, Rds s loc M0 w (ev l x) (ρ x)) : ∀ xs : List Operand, okL true (ev l) xs → ∀ x ∈ xs, Rds s loc M0 w (stripE l x) (ρ x)
  | [], _, x, hx => by cases hx
  | y :: ys, h, x, hx => by
    simp only [okL] at h
    rcases List.mem_cons.1 hx with rfl | hx
    · have := hρ x
      unfold stripE
      cases hq : ev l x <;> rw [hq] at this h <;> simp only [strip] <;> try exact this
      simp only [okG] at h
      simp only [Rds, rd] at this
      exact this.1 (h.1 trivial)
    · exact okL_ok hρ ys h.2 x hx

theorem pickV_any1 (x : DVal) : pickV true x .any = x := by
  cases x <;> try rfl
  rename_i c d
  cases d <;> rfl
theorem pickV_any2 (y : DVal) : pickV false .any y = y := by
  cases y <;> rfl
theorem rd_pickV {cur : Cur} {M : List Nat} {h : Array Obj} {t : Bool} {x y : DVal} {v : Value} (hok : pickOK t x y) (hv : rd cur M h (if t then x else y) v) : rd cur M h (pickV t x y) v := by
  unfold pickV
  split
  · cases t <;> exact hv
  · cases t
    · simp only [pickOK] at hok
      simp only [Bool.false_eq_true, if_false, rd] at hv ⊢
      exact hv.1 (hok trivial)
    · exact hv
  · cases t
    · exact hv
    · simp only [pickOK] at hok
      simp only [if_true, rd] at hv ⊢
      exact hv.1 (hok trivial)
  · cases t <;> exact hv

theorem okG_ok {l : List (Nat × DVal)} {ρ : Operand → Value} {M0 : List Nat} {x : Operand} (hρ : Rds s loc M0 w (ev l x) (ρ x)) (h : okG true (ev l x)) : Rds s loc M0 w (stripE l x) (ρ x) := by
  unfold stripE
  cases hq : ev l x <;> rw [hq] at hρ h <;> simp only [strip] <;> try exact hρ
  simp only [okG] at h
  simp only [Rds, rd] at hρ
  exact hρ.1 (h trivial)

/-- under a guard that holds: which data the operands may be taken to have -/
theorem okOp_ok {l : List (Nat × DVal)} {ρ : Operand → Value} {M0 : List Nat} {op : Op} {own : List Ent} (hρ : ∀ x, Rds s loc M0 w (ev l x) (ρ x)) (hok : okOp true (ev l) op) (hp : nPre P own (stripE l) op) :
    ∃ e' : Operand → DVal, (∀ x ∈ op.operands, Rds s loc M0 w (e' x) (ρ x)) ∧ nPre P own e' op ∧ ∀ cur M h v, rd cur M h (nVal P own e' op) v → rd cur M h (nVal P own (stripE l) op) v := by
  classical
  by_cases hpk : ∃ x a b, op = .pick x a b
  · obtain ⟨x, a, b, rfl⟩ := hpk
    simp only [okOp] at hok
    obtain ⟨h1, h2⟩ := hok
    simp only [nPre] at hp
    cases hx : stripE l x <;> rw [hx] at hp <;> try exact hp.elim
    rename_i t
    have h2 := h2 t hx
    refine ⟨fun y => if okG true (ev l y) then stripE l y else .any, ?_, ?_, ?_⟩
    · intro y _
      simp only
      split
      · rename_i hy; exact okG_ok (hρ y) hy
      · simp only [Rds, rd]
    · simp only [nPre, if_pos h1, hx]
      cases t
      · rw [if_pos (h2.2 rfl)]
        split
        · exact hp
        · cases stripE l b <;> simp [pickOK]
      · rw [if_pos (h2.1 rfl)]
        split
        · exact hp
        · cases hsa : stripE l a <;> simp only [pickOK]
    · intro cur M h v
      simp only [nVal, if_pos h1, hx]
      cases t
      · rw [if_pos (h2.2 rfl)]
        split
        · exact id
        · rw [pickV_any2]
          exact fun hv => rd_pickV hp hv
      · rw [if_pos (h2.1 rfl)]
        split
        · exact id
        · rw [pickV_any1]
          exact fun hv => rd_pickV hp hv
  · have hok' : okL true (ev l) op.operands.toList := by
      unfold okOp at hok
      split at hok
      · exact absurd ⟨_, _, _, rfl⟩ hpk
      · exact hok
    exact ⟨stripE l, fun x hx => okL_ok hρ _ hok' x (by simpa using hx), hp, fun _ _ _ _ h => h⟩

/-- what a guard's slot says -/
theorem guard_ok {ops : Array Oper} {j : Nat} {want : Bool} (R : Rel B s a w loc) (hg : gOK (gSlot ops s j) = true) : (yielded ops a.tmps j == some want) = gB (gSlot ops s j) want := by
  unfold gSlot at hg ⊢
  cases ht : (ops[j]?).bind (·.dst) with
  | none => simp [ht, gOK] at hg
  | some t =>
    simp only [ht] at hg ⊢
    have hs := R.sl t
    have hy : yielded ops a.tmps j = match a.tmps[t]? with | some (.bool b) => some b | _ => none := by
      unfold yielded
      rw [ht]
      rfl
    have hnone : a.tmps.getD t Go.undef = Go.undef → yielded ops a.tmps j = none := by
      intro hs
      rw [hy]
      cases hq : a.tmps[t]? with
      | none => rfl
      | some v =>
        simp only [Array.getD_eq_getD_getElem?, hq, Option.getD_some] at hs
        subst hs; rfl
    have hsome : ∀ b, a.tmps.getD t Go.undef = .bool b → yielded ops a.tmps j = some b := by
      intro b hs
      rw [hy]
      cases hq : a.tmps[t]? with
      | none => simp [Array.getD_eq_getD_getElem?, hq, Go.undef] at hs
      | some v =>
        simp only [Array.getD_eq_getD_getElem?, hq, Option.getD_some] at hs
        subst hs; rfl
    cases hd : getS s.slots t <;> rw [hd] at hg hs <;> try (simp [gOK] at hg; done)
    · simp only [rd] at hs
      rw [hnone hs]; cases want <;> rfl
    · rename_i c d
      cases d <;> try (simp [gOK] at hg; done)
      rename_i b
      simp only [rd] at hs
      cases c
      · rw [hnone (hs.2 rfl)]; cases want <;> rfl
      · rw [hsome b (hs.1 rfl)]; cases want <;> cases b <;> rfl
    · rename_i b
      simp only [rd] at hs
      rw [hsome b hs]; cases want <;> cases b <;> rfl

end
end Go.Dm
