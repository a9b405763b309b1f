/- The data machine, second make, part G: regions that draw their order, all of whose operations are neutral: the text's order serves for all. -/
import Derived.Test.YtihkcegelghcpaaEnF
import Derived.Orders
set_option linter.unusedSimpArgs false
set_option linter.unusedVariables false
namespace Go.Dm

section
variable {P : Program} {own : List Ent} {e e' : Operand → DVal}

theorem callee_congr {c : Call} (h : ∀ x ∈ c.operands, e x = e' x) : callee e c = callee e' c := by
  unfold callee
  have hargs : c.args.toList.map e = c.args.toList.map e' := List.map_congr_left fun x hx => h x (by simp [Call.operands]; right; simpa using hx)
  cases hc : c.callee with
  | value f => have hf : e f = e' f := h f (by simp [Call.operands, hc]); simp only [hf, hargs]
  | invoke r m => rfl
  | builtin b => rfl

theorem okOp_congr {c : Bool} {op : Op} (h : ∀ x ∈ op.operands, e x = e' x) (hk : okOp c e op) : okOp c e' op := by
  have gen : ∀ xs : List Operand, (∀ x ∈ xs, e x = e' x) → okL c e xs → okL c e' xs := by
    intro xs
    induction xs with
    | nil => intro _ _; trivial
    | cons x xs ih =>
      intro hx hq
      simp only [okL] at hq ⊢
      exact ⟨by rw [← hx x List.mem_cons_self]; exact hq.1, ih (fun y hy => hx y (List.mem_cons_of_mem _ hy)) hq.2⟩
  unfold okOp at hk ⊢
  split at hk
  · rename_i x a b
    simp only [Op.operands] at h
    rw [h x (by simp), h a (by simp), h b (by simp)] at hk
    exact hk
  · exact gen _ (fun x hx => h x (by simpa using hx)) hk

end

/-- masks of ancestors -/
def maskOf (o : Oper) (acc : List Nat) : Nat := o.after.toList.foldl (fun s e => if Region.binds .any e then s ||| 2 ^ e.on ||| acc.getD e.on 0 else s) 0
def masks : List Oper → List Nat → List Nat
  | [], acc => acc
  | o :: r, acc => masks r (acc ++ [maskOf o acc])

def drawOK (ops : Array Oper) : Bool :=
  let m := masks ops.toList []
  let zs := ops.toList.zipIdx
  (zs.all fun p => zs.all fun q => p.1.dst == none || p.1.dst != q.1.dst || p.2 == q.2) &&
  (zs.all fun p => p.1.after.toList.all fun e => !Region.binds .any e || decide (e.on < p.2)) &&
  zs.all fun p => (p.1.looksAt ops).all fun t => zs.all fun q => q.1.dst != some t || (decide (q.2 < p.2) && (m.getD p.2 0).testBit q.2) || (decide (p.2 < q.2) && (m.getD q.2 0).testBit p.2)

structure DrawSpec (ops : Array Oper) : Prop where
  one : ∀ (k k' : Nat) (o o' : Oper) (t : Nat), ops[k]? = some o → ops[k']? = some o' → o.dst = some t → o'.dst = some t → k = k'
  acy : ∀ (k : Nat) (o : Oper), ops[k]? = some o → ∀ e ∈ o.after, Region.binds .any e = true → e.on < k
  ord : ∀ (j : Nat) (o : Oper) (t : Nat), ops[j]? = some o → t ∈ o.looksAt ops → ∀ (k : Nat) (o' : Oper), ops[k]? = some o' → o'.dst = some t →
    (k < j ∧ ((masks ops.toList []).getD j 0).testBit k = true) ∨ (j < k ∧ ((masks ops.toList []).getD k 0).testBit j = true)

theorem drawOK_spec {ops : Array Oper} (h : drawOK ops = true) : DrawSpec ops := by
  unfold drawOK at h
  simp only [Bool.and_eq_true, List.all_eq_true] at h
  obtain ⟨⟨h1, h2⟩, h3⟩ := h
  have mem : ∀ (k : Nat) (o : Oper), ops[k]? = some o → (o, k) ∈ ops.toList.zipIdx := by
    intro k o hk
    rw [List.mem_zipIdx_iff_getElem?]
    simpa using hk
  refine ⟨?_, ?_, ?_⟩
  · intro k k' o o' t hk hk' ht ht'
    have := h1 (o, k) (mem k o hk) (o', k') (mem k' o' hk')
    simpa [ht, ht'] using this
  · intro k o hk e he hb
    have := h2 (o, k) (mem k o hk) e (by simpa using he)
    simpa [hb] using this
  · intro j o t hj ht k o' hk hd
    have := h3 (o, j) (mem j o hj) t ht (o', k) (mem k o' hk)
    simpa [hd] using this

theorem maskOf_bit (o : Oper) (acc : List Nat) (j : Nat) (h : (maskOf o acc).testBit j = true) : ∃ e ∈ o.after.toList, Region.binds .any e = true ∧ (j = e.on ∨ (acc.getD e.on 0).testBit j = true) := by
  unfold maskOf at h
  have key : ∀ (l : List Edge) (s : Nat), (l.foldl (fun s e => if Region.binds .any e then s ||| 2 ^ e.on ||| acc.getD e.on 0 else s) s).testBit j = true → s.testBit j = true ∨ ∃ e ∈ l, Region.binds .any e = true ∧ (j = e.on ∨ (acc.getD e.on 0).testBit j = true) := by
    intro l
    induction l with
    | nil => intro s hs; exact .inl hs
    | cons e l ih =>
      intro s hs
      simp only [List.foldl_cons] at hs
      rcases ih _ hs with h1 | ⟨e', he', h2⟩
      · split at h1
        · rename_i hb
          rw [Nat.testBit_or, Nat.testBit_or, Bool.or_eq_true, Bool.or_eq_true] at h1
          rcases h1 with (h1 | h1) | h1
          · exact .inl h1
          · rw [Nat.testBit_two_pow] at h1
            exact .inr ⟨e, List.mem_cons_self, hb, .inl (by simpa using h1 : e.on = j).symm⟩
          · exact .inr ⟨e, List.mem_cons_self, hb, .inr h1⟩
        · exact .inl h1
      · exact .inr ⟨e', List.mem_cons_of_mem _ he', h2⟩
  rcases key _ 0 h with h1 | h1
  · simp at h1
  · exact h1

theorem masks_at : ∀ (l : List Oper) (acc : List Nat) (k : Nat), (masks l acc).getD k 0 = if k < acc.length then acc.getD k 0 else match l[k - acc.length]? with | some o => maskOf o ((masks l acc).take k) | none => 0
  | [], acc, k => by
    simp only [masks]
    split
    · rfl
    · rename_i h; simp [List.getD_eq_getElem?_getD, List.getElem?_eq_none (by omega : acc.length ≤ k)]
  | o :: r, acc, k => by
    simp only [masks]
    rw [masks_at r (acc ++ [maskOf o acc]) k]
    have pre : ∀ (l : List Oper) (a : List Nat), ∃ z, masks l a = a ++ z := by
      intro l
      induction l with
      | nil => intro a; exact ⟨[], by simp [masks]⟩
      | cons o l ih => intro a; obtain ⟨z, hz⟩ := ih (a ++ [maskOf o a]); exact ⟨_, by simp only [masks]; rw [hz, List.append_assoc]⟩
    simp only [List.length_append, List.length_cons, List.length_nil, Nat.zero_add]
    by_cases h1 : k < acc.length
    · rw [if_pos (by omega), if_pos h1]
      simp [List.getD_eq_getElem?_getD, List.getElem?_append_left h1]
    · rw [if_neg h1]
      by_cases h2 : k = acc.length
      · subst h2
        rw [if_pos (by omega)]
        simp only [Nat.sub_self, List.getElem?_cons_zero]
        obtain ⟨z, hz⟩ := pre r (acc ++ [maskOf o acc])
        rw [hz]
        simp [List.getD_eq_getElem?_getD]
      · rw [if_neg (by omega)]
        have : k - acc.length = (k - (acc.length + 1)) + 1 := by omega
        rw [this, List.getElem?_cons_succ]

/-- A set of operations that holds what each of its members waits for. -/
def Closed (ops : Array Oper) (S : Nat → Bool) : Prop := ∀ k o, ops[k]? = some o → S k = true → ∀ e ∈ o.after, Region.binds .any e = true → S e.on = true

theorem closed_bit {ops : Array Oper} {S : Nat → Bool} (hc : Closed ops S) : ∀ (k : Nat), S k = true → ∀ j, ((masks ops.toList []).getD k 0).testBit j = true → S j = true := by
  intro k
  induction k using Nat.strongRecOn with
  | _ k ih =>
    intro hk j hj
    rw [masks_at] at hj
    simp only [List.length_nil, Nat.not_lt_zero, if_false, Nat.sub_zero] at hj
    split at hj
    · rename_i o ho
      obtain ⟨e, he, hb, h1⟩ := maskOf_bit _ _ _ hj
      have hS := hc k o (by simpa using ho) hk e (by simpa using he) hb
      rcases h1 with rfl | h1
      · exact hS
      · by_cases hlt : e.on < k
        · refine ih e.on hlt hS j ?_
          have : ((masks ops.toList []).take k).getD e.on 0 = (masks ops.toList []).getD e.on 0 := by
            simp [List.getD_eq_getElem?_getD, List.getElem?_take_of_lt hlt]
          rwa [this] at h1
        · have : ((masks ops.toList []).take k).getD e.on 0 = 0 := by
            rw [List.getD_eq_getElem?_getD, List.getElem?_eq_none (by simp; omega)]; rfl
          rw [this] at h1; simp at h1
    · simp at hj

/-! the lexical run -/

/-- What one operation, unguarded, may hand back. -/
def OpOK1 (P : Program) (o : Oper) (own : List Ent) (e : Operand → DVal) (d : DVal) : Prop :=
  (∃ c g args, o.op = .call c ∧ callee e c = some (g, args) ∧ DPure P g args d) ∨ (nPre P own e o.op ∧ d = nVal P own e o.op)
def OpOK (P : Program) (nt : Nat) (ops : Array Oper) (o : Oper) (s : DS) (d : DVal) : Prop :=
  dstOK nt o.dst = true ∧ match o.guard with
    | none => OpOK1 P o s.own (ev s.slots) d
    | some (j, want) => gOK (gSlot ops s j) = true ∧ okOp (gB (gSlot ops s j) want) (ev s.slots) o.op ∧ ∃ d', d = .sel (gB (gSlot ops s j) want) d' ∧ (gB (gSlot ops s j) want = true → OpOK1 P o s.own (stripE s.slots) d')

/-- 'dOps' where no call's result is looked at for its bounds: for regions that draw. -/
def dOpD (P : Program) (nt : Nat) (o : Oper) (s : DS) (K : Cont) : Prop :=
  dstOK nt o.dst = true ∧ match o.op with
    | .call c => match callee (ev s.slots) c with
      | some (g, args) => callP P g args (kD K s o.dst)
      | none => nPre P s.own (ev s.slots) o.op ∧ K.f ⟨putS s.slots o.dst (nVal P s.own (ev s.slots) o.op), s.own⟩
    | op => nPre P s.own (ev s.slots) op ∧ K.f ⟨putS s.slots o.dst (nVal P s.own (ev s.slots) op), s.own⟩

def lexS (l : List (Nat × DVal)) : List (Oper × DVal) → List (Nat × DVal)
  | [] => l
  | (o, d) :: r => lexS (putS l o.dst d) r

/-- the slots when the operations of S have been carried out -/
def setS (l : List (Nat × DVal)) (S : Nat → Bool) : Nat → List (Oper × DVal) → List (Nat × DVal)
  | _, [] => l
  | i, (o, d) :: r => if S i then putS (setS l S (i + 1) r) o.dst d else setS l S (i + 1) r

theorem getS_putS (l : List (Nat × DVal)) (o : Option Nat) (d : DVal) (t : Nat) : getS (putS l o d) t = if o = some t then d else getS l t := by
  cases o with
  | none => simp [putS]
  | some i =>
    simp only [putS, getS, Option.some.injEq]
    by_cases h : t = i
    · subst h; simp
    · rw [if_neg h, if_neg (fun h' => h h'.symm)]

/-- who writes t -/
theorem getS_setS_none {l : List (Nat × DVal)} {S : Nat → Bool} {t : Nat} : ∀ (zs : List (Oper × DVal)) (i : Nat), (∀ (k : Nat) (z : Oper × DVal), zs[k]? = some z → z.1.dst = some t → S (i + k) = false) → getS (setS l S i zs) t = getS l t
  | [], _, _ => rfl
  | (o, d) :: r, i, h => by
    have ih := getS_setS_none (l := l) (S := S) (t := t) r (i + 1) (fun k z hz hd => by have := h (k + 1) z (by simpa using hz) hd; rwa [show i + 1 + k = i + (k + 1) by omega])
    simp only [setS]
    split
    · rename_i hS
      rw [getS_putS, if_neg, ih]
      intro hd
      have := h 0 (o, d) (by simp) hd
      rw [Nat.add_zero] at this
      rw [this] at hS; simp at hS
    · exact ih

theorem getS_setS_some {l : List (Nat × DVal)} {S : Nat → Bool} {t : Nat} : ∀ (zs : List (Oper × DVal)) (i k : Nat) (z : Oper × DVal), zs[k]? = some z → z.1.dst = some t → S (i + k) = true → (∀ (k' : Nat) (z' : Oper × DVal), zs[k']? = some z' → z'.1.dst = some t → k' = k) → getS (setS l S i zs) t = z.2
  | [], _, _, _, hz, _, _, _ => by simp at hz
  | (o, d) :: r, i, 0, z, hz, hd, hS, _ => by
    simp only [List.getElem?_cons_zero, Option.some.injEq] at hz; subst hz
    simp only [setS]
    rw [Nat.add_zero] at hS
    rw [if_pos hS, getS_putS, if_pos hd]
  | (o, d) :: r, i, k + 1, z, hz, hd, hS, hu => by
    have ih := getS_setS_some (l := l) (S := S) (t := t) r (i + 1) k z (by simpa using hz) hd (by rwa [show i + 1 + k = i + (k + 1) by omega]) (fun k' z' h1 h2 => by have := hu (k' + 1) z' (by simpa using h1) h2; omega)
    have hne : o.dst ≠ some t := fun h => by have := hu 0 (o, d) (by simp) h; omega
    simp only [setS]
    split
    · rw [getS_putS, if_neg hne, ih]
    · exact ih

theorem lexS_append (l : List (Nat × DVal)) : ∀ (a b : List (Oper × DVal)), lexS l (a ++ b) = lexS (lexS l a) b
  | [], _ => rfl
  | (o, d) :: a, b => by simp only [List.cons_append, lexS]; exact lexS_append _ a b

theorem getS_lexS_none {t : Nat} : ∀ (zs : List (Oper × DVal)) (l : List (Nat × DVal)), (∀ z ∈ zs, z.1.dst ≠ some t) → getS (lexS l zs) t = getS l t
  | [], _, _ => rfl
  | (o, d) :: r, l, h => by
    simp only [lexS]
    rw [getS_lexS_none r _ (fun z hz => h z (List.mem_cons_of_mem _ hz)), getS_putS, if_neg (h (o, d) List.mem_cons_self)]

theorem getS_lexS_some {t : Nat} : ∀ (zs : List (Oper × DVal)) (l : List (Nat × DVal)) (k : Nat) (z : Oper × DVal), zs[k]? = some z → z.1.dst = some t → (∀ (k' : Nat) (z' : Oper × DVal), zs[k']? = some z' → z'.1.dst = some t → k' = k) → getS (lexS l zs) t = z.2
  | [], _, _, _, hz, _, _ => by simp at hz
  | (o, d) :: r, l, 0, z, hz, hd, hu => by
    simp only [List.getElem?_cons_zero, Option.some.injEq] at hz; subst hz
    simp only [lexS]
    rw [getS_lexS_none, getS_putS, if_pos hd]
    intro z' hz' h
    obtain ⟨k', hk', rfl⟩ := List.getElem_of_mem hz'
    have := hu (k' + 1) _ (by simp only [List.getElem?_cons_succ]; exact List.getElem?_eq_getElem hk') h
    omega
  | (o, d) :: r, l, k + 1, z, hz, hd, hu => by
    simp only [lexS]
    exact getS_lexS_some r _ k z (by simpa using hz) hd (fun k' z' h1 h2 => by have := hu (k' + 1) z' (by simpa using h1) h2; omega)

theorem Rel.congr {B : Base} {l l' : List (Nat × DVal)} {own : List Ent} {a : Act} {w : World} {loc : Nat → Loc} (h : ∀ t, getS l' t = getS l t) (R : Rel B ⟨l, own⟩ a w loc) : Rel B ⟨l', own⟩ a w loc :=
  ⟨R.st, R.upd, R.new, R.ver, fun i => by have := R.sl i; simp only at this ⊢; rw [h i]; exact this, R.nt, R.df⟩

theorem cnt_set (S : Nat → Bool) (i : Nat) (hi : S i = false) : ∀ n, i < n → (List.range n).countP (fun k => if k = i then true else S k) = (List.range n).countP S + 1
  | 0, h => by omega
  | n + 1, h => by
    have same : ∀ m, m ≤ i → (List.range m).countP (fun k => if k = i then true else S k) = (List.range m).countP S := by
      intro m hm
      refine List.countP_congr fun k hk => ?_
      have : k ≠ i := by have := List.mem_range.1 hk; omega
      simp [this]
    rw [List.range_succ, List.countP_append, List.countP_append]
    by_cases h' : i < n
    · rw [cnt_set S i hi n h']
      have : n ≠ i := by omega
      simp [List.countP_cons, this]; omega
    · have : n = i := by omega
      subst this
      rw [same n (Nat.le_refl _)]
      simp [List.countP_cons, hi]

section
variable {P : Program} {B : Base} {s : DS}

theorem ev_congr {l l' : List (Nat × DVal)} {x : Operand} (h : ∀ t, x = .tmp t → getS l t = getS l' t) : ev l x = ev l' x := by
  cases x <;> first | rfl | exact h _ rfl

end
end Go.Dm
