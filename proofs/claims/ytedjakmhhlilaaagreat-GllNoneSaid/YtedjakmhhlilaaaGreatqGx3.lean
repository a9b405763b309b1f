/- Parts of a proof, laid together: EnD. -/
import Derived.Laws.StructEq
import Derived.Test.YtedjakmhhlilaaaGreatqGx2
set_option linter.unusedSimpArgs false
set_option linter.unusedVariables false
set_option linter.unusedSectionVars false
section
namespace Go.Dm
variable [DMode]
section
variable (P : Program)
def tInt (t : TypeId) : Option IntKind := match P.underlying t with | some (.int k) => some k | _ => none
def tStr (t : TypeId) : Bool := match P.underlying t with | some .string => true | _ => false
def tBool (t : TypeId) : Bool := match P.underlying t with | some .bool => true | _ => false
def tSl (t : TypeId) : Bool := match P.underlying t with | some (.slice _) => true | _ => false
def tMp (t : TypeId) : Bool := match P.underlying t with | some (.map _ _) => true | _ => false
def tPtr (t : TypeId) : Bool := match P.underlying t with | some (.pointer _) => true | _ => false
def tZero (t : TypeId) : Option (List DVal) := match P.info? t with
 | some i => i.zero.map fun v => v.cells.toList.map ofV1
 | none => none
def tStruct (t : TypeId) : Option (Array Field) := match P.underlying t with | some (.struct fs) => some fs | _ => none
end
inductive CK where
 | b
 | i (k : IntKind)
 | s
section
variable (P : Program)
def flatF (g : TypeId → Option (List CK)) : Nat → List Field → Option (List CK)
 | _, [] => some []
 | o, f :: fs => if f.name = "_" then none else if f.offset ≠ o then none else
  match g f.type with
  | some ks => if tCells P f.type = some ks.length then (flatF g (o + ks.length) fs).map (ks ++ ·) else none
  | none => none
def flat : Nat → TypeId → Option (List CK)
 | 0, _ => none
 | d + 1, t => match P.underlying t with
  | some .bool => some [.b]
  | some (.int k) => some [.i k]
  | some .string => some [.s]
  | some (.struct fs) => if P.stoodInHeld t then none else flatF P (flat d) 0 fs.toList
  | _ => none
def flatA (t : TypeId) : Option (List CK) := match P.underlying t with
 | some (.array n e) => (match flat P 9999 e with
  | some [c] => if tCells P e = some 1 then some (List.replicate n c) else none
  | _ => none)
 | _ => flat P 10000 t
end
def ckOf : CK → DVal → Bool
 | .b, .bool _ => true
 | .i k, .int k' _ => k == k'
 | .s, .str _ => true
 | _, _ => false
def ckAll : List CK → List DVal → Bool
 | [], [] => true
 | k :: ks, d :: ds => ckOf k d && ckAll ks ds
 | _, _ => false
def eqC : DVal → DVal → Bool
 | .bool a, .bool b => a == b
 | .int _ a, .int _ b => a == b
 | .str a, .str b => a == b
 | _, _ => false
def eqCs : List DVal → List DVal → Bool
 | [], [] => true
 | x :: xs, y :: ys => eqC x y && eqCs xs ys
 | _, _ => false
def iAnd (k : IntKind) (a b : Int) : Int := k.wrap (BitVec.ofInt k.bits a &&& BitVec.ofInt k.bits b).toNat
def iOr (k : IntKind) (a b : Int) : Int := k.wrap (BitVec.ofInt k.bits a ||| BitVec.ofInt k.bits b).toNat
def iXor (k : IntKind) (a b : Int) : Int := k.wrap (BitVec.ofInt k.bits a ^^^ BitVec.ofInt k.bits b).toNat
def iAndNot (k : IntKind) (a b : Int) : Int := k.wrap (BitVec.ofInt k.bits a &&& ~~~(BitVec.ofInt k.bits b)).toNat
def iShl (k : IntKind) (a b : Int) : Int := k.wrap (a * 2 ^ (min b.toNat k.bits))
def iShr (k : IntKind) (a b : Int) : Int := a.fdiv (2 ^ (min b.toNat k.bits))
def dbin (P : Program) (op : BinOp) (t : TypeId) : DVal → DVal → Option DVal
 | .int k a, .int k' b => match op with
  | .shl => if b < 0 then none else some (.int k (iShl k a b))
  | .shr => if b < 0 then none else some (.int k (iShr k a b))
  | _ => if k ≠ k' then none else match op with
   | .add => some (.int k (k.wrap (a + b)))
   | .sub => some (.int k (k.wrap (a - b)))
   | .mul => some (.int k (k.wrap (a * b)))
   | .quo => if b = 0 then none else some (.int k (k.wrap (a.tdiv b)))
   | .rem => if b = 0 then none else some (.int k (a.tmod b))
   | .and => some (.int k (iAnd k a b))
   | .or => some (.int k (iOr k a b))
   | .xor => some (.int k (iXor k a b))
   | .andNot => some (.int k (iAndNot k a b))
   | .eql => some (.bool (a == b))
   | .neq => some (.bool (a != b))
   | .lss => some (.bool (decide (a < b)))
   | .leq => some (.bool (decide (a ≤ b)))
   | .gtr => some (.bool (decide (b < a)))
   | .geq => some (.bool (decide (b ≤ a)))
   | _ => none
 | .str a, .str b => match op with
  | .add => if a.size + b.size ≤ maxLen then some (.str (a ++ b)) else none
  | .eql => some (.bool (a == b))
  | .neq => some (.bool (!(a == b)))
  | .lss => some (.bool (Op.bytesLess a.data.toList b.data.toList))
  | .leq => some (.bool (Op.bytesLess a.data.toList b.data.toList || a == b))
  | .gtr => some (.bool (!(Op.bytesLess a.data.toList b.data.toList || a == b)))
  | .geq => some (.bool (!Op.bytesLess a.data.toList b.data.toList))
  | _ => none
 | .bool a, .bool b => if tBool P t then (match op with
  | .eql => some (.bool (a == b))
  | .neq => some (.bool (!(a == b)))
  | _ => none) else none
 | .agg xs, .agg ys => if P.eqGuardType P.depth t then none else if tAgg P t ≠ some true then none else match flatA P t with
  | some ks => if ckAll ks xs && ckAll ks ys then (match op with
   | .eql => some (.bool (eqCs xs ys))
   | .neq => some (.bool (!eqCs xs ys))
   | _ => none) else none
  | none => none
 | .nilp, .nilp => if tPtr P t then (match op with | .eql => some (.bool true) | .neq => some (.bool false) | _ => none) else none
 | .nilsl, .nilsl => if tSl P t then (match op with | .eql => some (.bool true) | .neq => some (.bool false) | _ => none) else none
 | .esl, .nilsl => if tSl P t then (match op with | .eql => some (.bool false) | .neq => some (.bool true) | _ => none) else none
 | .sl _ _ (_ :: _), .nilsl => if tSl P t then (match op with | .eql => some (.bool false) | .neq => some (.bool true) | _ => none) else none
 | .ref _, .nilp => if tPtr P t then (match op with | .eql => some (.bool false) | .neq => some (.bool true) | _ => none) else none
 | .mp _ _, .nilmp => if tMp P t then (match op with | .eql => some (.bool false) | .neq => some (.bool true) | _ => none) else none
 | .nilmp, .nilmp => if tMp P t then (match op with | .eql => some (.bool true) | .neq => some (.bool false) | _ => none) else none
 | _, _ => none
theorem wrap_inR (k : IntKind) (n : Int) : inR k (k.wrap n) := by
 cases k <;> simp only [IntKind.wrap, IntKind.bits, IntKind.signed, inR] <;> simp <;> (try split) <;> omega
section
variable {P : Program} {cur : Cur} {M : List Nat} {h : Array Obj} {w : World}
theorem beqS (a b : ByteArray) : (a.toList == b.toList) = (a == b) := (beq_toListBytes a b).symm
theorem run_equal_flat1 {d : Nat} {t : TypeId} {c : CK} {x y : DVal} {u v : Value} (hf : flat P (d + 1) t = some [c]) (hns : tStruct P t = none) (hx : ckOf c x = true) (hy : ckOf c y = true)
  (rx : rd cur M h x u) (ry : rd cur M h y v) : (Op.equalIn (d + 1) t u v).run P w = .ok (eqC x y) w := by
 simp only [flat] at hf
 split at hf <;> rename_i hu
 ·simp only [Option.some.injEq, List.cons.injEq, and_true] at hf; subst hf
  cases x <;> simp [ckOf] at hx
  cases y <;> simp [ckOf] at hy
  simp only [rd] at rx ry
  subst rx; subst ry
  simpa [eqC] using run_equalIn_bool' (P := P) w d t _ _ hu
 ·simp only [Option.some.injEq, List.cons.injEq, and_true] at hf; subst hf
  cases x <;> simp [ckOf] at hx
  cases y <;> simp [ckOf] at hy
  simp only [rd] at rx ry
  obtain ⟨rfl, _⟩ := rx; obtain ⟨rfl, _⟩ := ry
  subst hx; subst hy
  simpa [eqC] using run_equalIn_int (P := P) w d t _ _ _ _ hu
 ·simp only [Option.some.injEq, List.cons.injEq, and_true] at hf; subst hf
  cases x <;> simp [ckOf] at hx
  cases y <;> simp [ckOf] at hy
  simp only [rd] at rx ry
  obtain ⟨rfl, _⟩ := rx; obtain ⟨rfl, _⟩ := ry
  rw [run_equalIn_string (P := P) w d t _ _ hu, beqS]; rfl
 ·simp [tStruct, hu] at hns
 ·simp at hf
theorem eqCs_append : ∀ (a b c d : List DVal), a.length = b.length → eqCs (a ++ c) (b ++ d) = (eqCs a b && eqCs c d)
 | [], [], _, _, _ => by simp [eqCs]
 | x :: a, y :: b, c, d, h => by
  simp only [List.cons_append, eqCs, eqCs_append a b c d (by simpa using h), Bool.and_assoc]
theorem ckAll_length : ∀ (ks : List CK) (ds : List DVal), ckAll ks ds = true → ds.length = ks.length
 | [], [], _ => rfl
 | [], _ :: _, h => by simp [ckAll] at h
 | _ :: _, [], h => by simp [ckAll] at h
 | k :: ks, d :: ds, h => by
  simp only [ckAll, Bool.and_eq_true] at h
  simp [ckAll_length ks ds h.2]
theorem ckAll_split : ∀ (k1 k2 : List CK) (ds : List DVal), ckAll (k1 ++ k2) ds = true → ckAll k1 (ds.take k1.length) = true ∧ ckAll k2 (ds.drop k1.length) = true
 | [], k2, ds, h => by simpa [ckAll] using h
 | k :: k1, k2, [], h => by simp [ckAll] at h
 | k :: k1, k2, d :: ds, h => by
  simp only [List.cons_append, ckAll, Bool.and_eq_true] at h
  have := ckAll_split k1 k2 ds h.2
  simpa [ckAll, h.1] using this
theorem rdV_length : ∀ (ds : List DVal) (vs : List Value), rdV cur M h ds vs → vs.length = ds.length
 | [], vs, hr => by simp only [rdV] at hr; subst hr; rfl
 | d :: ds, vs, hr => by
  simp only [rdV] at hr
  obtain ⟨v, r, rfl, _, h3⟩ := hr
  simp [rdV_length ds r h3]
theorem rdV_at : ∀ (ds : List DVal) (vs : List Value) (i : Nat) (d : DVal), rdV cur M h ds vs → ds[i]? = some d → ∃ v, vs[i]? = some v ∧ rd cur M h d v
 | [], vs, i, d, _, hi => by simp at hi
 | d :: ds, vs, 0, d', hr, hi => by
  simp only [rdV] at hr
  obtain ⟨v, r, rfl, h2, _⟩ := hr
  simp only [List.getElem?_cons_zero, Option.some.injEq] at hi; subst hi
  exact ⟨v, by simp, h2⟩
 | d :: ds, vs, i + 1, d', hr, hi => by
  simp only [rdV] at hr
  obtain ⟨v, r, rfl, _, h3⟩ := hr
  simpa using rdV_at ds r i d' h3 (by simpa using hi)
theorem rdV_drop : ∀ (n : Nat) (ds : List DVal) (vs : List Value), rdV cur M h ds vs → rdV cur M h (ds.drop n) (vs.drop n)
 | 0, ds, vs, hr => by simpa using hr
 | n + 1, [], vs, hr => by simp only [rdV] at hr; subst hr; simp [rdV]
 | n + 1, d :: ds, vs, hr => by
  simp only [rdV] at hr
  obtain ⟨v, r, rfl, _, h3⟩ := hr
  simpa using rdV_drop n ds r h3
theorem rdV_take : ∀ (n : Nat) (ds : List DVal) (vs : List Value), rdV cur M h ds vs → rdV cur M h (ds.take n) (vs.take n)
 | 0, ds, vs, hr => by simp [rdV]
 | n + 1, [], vs, hr => by simp only [rdV] at hr; subst hr; simp [rdV]
 | n + 1, d :: ds, vs, hr => by
  simp only [rdV] at hr
  obtain ⟨v, r, rfl, h2, h3⟩ := hr
  simp only [List.take_succ_cons, rdV]
  exact ⟨v, _, rfl, h2, rdV_take n ds r h3⟩
theorem rdV_append : ∀ (a b : List DVal) (u v : List Value), rdV cur M h a u → rdV cur M h b v → rdV cur M h (a ++ b) (u ++ v)
 | [], b, u, v, h1, h2 => by simp only [rdV] at h1; subst h1; simpa using h2
 | d :: a, b, u, v, h1, h2 => by
  simp only [rdV] at h1
  obtain ⟨x, r, rfl, h3, h4⟩ := h1
  simp only [List.cons_append, rdV]
  exact ⟨x, _, rfl, h3, rdV_append a b r v h4 h2⟩
def valOf (agg : Bool) (us : List Value) : Value := if agg then .agg us.toArray else us.headD Go.undef
theorem run_part {t : TypeId} {b : Bool} {n : Nat} {us : Array Value} {o : Nat} (hb : tAgg P t = some b) (hn : tCells P t = some n) (hn1 : b = false → n = 1) (hl : o + n ≤ us.size) :
  (part t us o).run P w = .ok (valOf b ((us.toList.drop o).take n)) w := by
 unfold part
 rw [Sem.run_bind, run_isAgg hb]
 cases b with
 | true =>
  simp only [Result.andThen_ok, if_true, Sem.run_bind, run_sizeOf' hn, Sem.run_pure, valOf]
  congr 2
  apply Array.ext'
  simp [List.extract, Nat.add_sub_cancel_left]
 | false =>
  have := hn1 rfl
  subst this
  have ho : o < us.size := by omega
  simp only [Result.andThen_ok, Bool.false_eq_true, if_false, Array.getElem?_eq_getElem ho, Sem.run_pure, valOf]
  congr 1
  rw [List.drop_eq_getElem_cons (by simpa using ho)]
  simp
theorem flat_agg {d : Nat} {t : TypeId} {ks : List CK} (hf : flat P d t = some ks) : ∃ b, tAgg P t = some b ∧ (b = false → ks.length = 1) ∧ (b = true → tStruct P t ≠ none) ∧ (b = false → tStruct P t = none) := by
 cases d with
 | zero => simp [flat] at hf
 | succ d =>
  simp only [flat] at hf
  split at hf <;> rename_i hu
  ·exact ⟨false, by simp [tAgg, hu], fun _ => by simp only [Option.some.injEq] at hf; subst hf; rfl, by simp, fun _ => by simp [tStruct, hu]⟩
  ·exact ⟨false, by simp [tAgg, hu], fun _ => by simp only [Option.some.injEq] at hf; subst hf; rfl, by simp, fun _ => by simp [tStruct, hu]⟩
  ·exact ⟨false, by simp [tAgg, hu], fun _ => by simp only [Option.some.injEq] at hf; subst hf; rfl, by simp, fun _ => by simp [tStruct, hu]⟩
  ·exact ⟨true, by simp [tAgg, hu], by simp, fun _ => by simp [tStruct, hu], by simp⟩
  ·simp at hf
def FlatRuns (P : Program) (cur : Cur) (M : List Nat) (h : Array Obj) (d : Nat) : Prop :=
 ∀ (t : TypeId) (ks : List CK) (b : Bool) (xs ys : List DVal) (us vs : List Value) (w : World), flat P d t = some ks → tAgg P t = some b → ckAll ks xs = true → ckAll ks ys = true →
  rdV cur M h xs us → rdV cur M h ys vs → (Op.equalIn d t (valOf b us) (valOf b vs)).run P w = .ok (eqCs xs ys) w
theorem run_equal_fields {d : Nat} (H : FlatRuns P cur M h d) : ∀ (fs : List Field) (o : Nat) (ks : List CK) (xs ys : List DVal) (us0 vs0 us vs : List Value) (w : World), flatF P (flat P d) o fs = some ks → ckAll ks xs = true → ckAll ks ys = true →
  rdV cur M h xs us → rdV cur M h ys vs → us0.length = o → vs0.length = o → (Op.eqFields d (us0 ++ us).toArray (vs0 ++ vs).toArray fs).run P w = .ok (eqCs xs ys) w
 | [], o, ks, xs, ys, us0, vs0, us, vs, w, hf, hx, hy, _, _, _, _ => by
  simp only [flatF, Option.some.injEq] at hf; subst hf
  have e1 := ckAll_length [] xs hx
  have e2 := ckAll_length [] ys hy
  simp only [List.length_nil, List.length_eq_zero_iff] at e1 e2
  subst e1; subst e2
  simp [Op.eqFields, eqCs]
 | f :: fs, o, ks, xs, ys, us0, vs0, us, vs, w, hf, hx, hy, rx, ry, l1, l2 => by
  simp only [flatF] at hf
  split at hf
  ·simp at hf
  rename_i hnm
  split at hf
  ·simp at hf
  rename_i hof
  simp only [ne_eq, Decidable.not_not] at hof
  split at hf
  rotate_left
  ·simp at hf
  rename_i k1 hk1
  split at hf
  rotate_left
  ·simp at hf
  rename_i hsz
  simp only [Option.map_eq_some_iff] at hf
  obtain ⟨k2, hk2, rfl⟩ := hf
  obtain ⟨b, hb, hb1, _, _⟩ := flat_agg hk1
  have sx := ckAll_split k1 k2 xs hx
  have sy := ckAll_split k1 k2 ys hy
  have lx := ckAll_length _ _ hx
  have ly := ckAll_length _ _ hy
  have rlx := rdV_length _ _ rx
  have rly := rdV_length _ _ ry
  simp only [List.length_append] at lx ly
  have p1 := run_part (P := P) (w := w) (us := (us0 ++ us).toArray) (o := o) hb hsz hb1 (by simp; omega)
  have p2 := run_part (P := P) (w := w) (us := (vs0 ++ vs).toArray) (o := o) hb hsz hb1 (by simp; omega)
  have d1 : ((us0 ++ us).toArray.toList.drop o).take k1.length = us.take k1.length := by subst l1; simp
  have d2 : ((vs0 ++ vs).toArray.toList.drop o).take k1.length = vs.take k1.length := by subst l2; simp
  rw [d1] at p1
  rw [d2] at p2
  have e1 := H f.type k1 b (xs.take k1.length) (ys.take k1.length) _ _ w hk1 hb sx.1 sy.1 (rdV_take _ _ _ rx) (rdV_take _ _ _ ry)
  have ih := run_equal_fields H fs (o + k1.length) k2 (xs.drop k1.length) (ys.drop k1.length) (us0 ++ us.take k1.length) (vs0 ++ vs.take k1.length) (us.drop k1.length) (vs.drop k1.length) w hk2 sx.2 sy.2
   (rdV_drop _ _ _ rx) (rdV_drop _ _ _ ry) (by simp; omega) (by simp; omega)
  rw [List.append_assoc, List.append_assoc, List.take_append_drop, List.take_append_drop] at ih
  have heq : eqCs xs ys = (eqCs (xs.take k1.length) (ys.take k1.length) && eqCs (xs.drop k1.length) (ys.drop k1.length)) := by
   have ex := eqCs_append (xs.take k1.length) (ys.take k1.length) (xs.drop k1.length) (ys.drop k1.length) (by simp; omega)
   rwa [List.take_append_drop, List.take_append_drop] at ex
  simp only [Op.eqFields, ne_eq, hnm, not_false_eq_true, if_true, Sem.run_bind, hof, p1, p2, Result.andThen_ok, e1]
  rw [heq]
  cases hq : eqCs (xs.take k1.length) (ys.take k1.length)
  ·simp
  ·simp only [Bool.not_true, Bool.false_eq_true, if_false, Bool.true_and]
   exact ih
theorem run_equal_flat : ∀ (d : Nat), FlatRuns P cur M h d
 | 0 => by intro t ks b xs ys us vs w hf; simp [flat] at hf
 | d + 1 => by
  intro t ks b xs ys us vs w hf hb hx hy rx ry
  obtain ⟨b', hb', h1, h2, h3⟩ := flat_agg hf
  rw [hb] at hb'
  simp only [Option.some.injEq] at hb'
  subst hb'
  cases b with
  | false =>
   have hl := h1 rfl
   match ks, hl with
   | [c], _ =>
    match xs, ys, hx, hy with
    | [x], [y], hx, hy =>
     simp only [ckAll, Bool.and_true] at hx hy
     simp only [rdV] at rx ry
     obtain ⟨u, _, rfl, rx, rfl⟩ := rx
     obtain ⟨v, _, rfl, ry, rfl⟩ := ry
     simp only [valOf, Bool.false_eq_true, if_false, List.headD_cons]
     rw [run_equal_flat1 hf (h3 rfl) hx hy rx ry]
     simp [eqCs]
    | [], _, hx, _ => simp [ckAll] at hx
    | _ :: _ :: _, _, hx, _ => simp [ckAll] at hx
    | [_], [], _, hy => simp [ckAll] at hy
    | [_], _ :: _ :: _, _, hy => simp [ckAll] at hy
  | true =>
   have hst := h2 rfl
   obtain ⟨fs, hu⟩ : ∃ fs, P.underlying t = some (.struct fs) := by
    unfold tStruct at hst
    split at hst
    ·exact ⟨_, by assumption⟩
    ·simp at hst
   simp only [flat, hu] at hf
   split at hf
   ·simp at hf
   rename_i hsi
   have hfo : P.fieldsOf t = fs := by simp [Program.fieldsOf, hu]
   simp only [valOf, if_true]
   rw [run_equalIn_struct w d t _ _ (by rw [hfo]; exact hu) (by simpa using hsi), hfo]
   exact run_equal_fields (run_equal_flat d) fs.toList 0 ks xs ys [] [] us vs w hf hx hy rx ry rfl rfl
theorem eqCs_drop {xs ys : List DVal} {s : Nat} (hx : s < xs.length) (hy : s < ys.length) : eqCs (xs.drop s) (ys.drop s) = (eqC xs[s] ys[s] && eqCs (xs.drop (s + 1)) (ys.drop (s + 1))) := by
 rw [List.drop_eq_getElem_cons hx, List.drop_eq_getElem_cons hy]
 rfl
theorem run_forIn_elems {n : Nat} (w : World) (xs ys : List DVal) (hx : xs.length = n) (hy : ys.length = n) (F : Nat → Option Bool × Unit → Sem (ForInStep (Option Bool × Unit)))
  (hF : ∀ i (hi : i < n), (F i (none, ())).run P w = .ok (if eqC (xs[i]'(by omega)) (ys[i]'(by omega)) then .yield (none, ()) else .done (some false, ())) w) :
  ∀ m s, s + m = n → (forIn (List.range' s m) (none, ()) F : Sem _).run P w = .ok (if eqCs (xs.drop s) (ys.drop s) then (none, ()) else (some false, ())) w
 | 0, s, hs => by
  rw [List.drop_of_length_le (by omega), List.drop_of_length_le (by omega)]
  simp [eqCs]
 | m + 1, s, hs => by
  have ih := run_forIn_elems w xs ys hx hy F hF m (s + 1) (by omega)
  rw [eqCs_drop (by omega) (by omega), List.range'_succ, List.forIn_cons, Sem.run_bind, hF s (by omega)]
  cases eqC (xs[s]'(by omega)) (ys[s]'(by omega))
  ·simp
  ·simp only [if_true, Result.andThen_ok, Bool.true_and]
   exact ih
theorem run_equalIn_arr {d t e n : Nat} {b : Bool} {c : CK} (w : World) (hu : P.underlying t = some (.array n e)) (hb : tAgg P e = some b) (hsz : tCells P e = some 1) (xs ys : List DVal) (us vs : List Value)
  (H : ∀ (xs ys : List DVal) (us vs : List Value) (w : World), ckAll [c] xs = true → ckAll [c] ys = true → rdV cur M h xs us → rdV cur M h ys vs → (Op.equalIn d e (valOf b us) (valOf b vs)).run P w = .ok (eqCs xs ys) w)
  (hx : ckAll (List.replicate n c) xs = true) (hy : ckAll (List.replicate n c) ys = true) (rx : rdV cur M h xs us) (ry : rdV cur M h ys vs) :
  (Op.equalIn (d + 1) t (.agg us.toArray) (.agg vs.toArray)).run P w = .ok (eqCs xs ys) w := by
 have lx := ckAll_length _ _ hx
 have ly := ckAll_length _ _ hy
 simp only [List.length_replicate] at lx ly
 have lu := rdV_length _ _ rx
 have lv := rdV_length _ _ ry
 have ck1 : ∀ (n : Nat) (xs : List DVal), ckAll (List.replicate n c) xs = true → ∀ i (hi : i < xs.length), ckOf c xs[i] = true := by
  intro n
  induction n with
  | zero => intro xs hx i hi; have := ckAll_length _ _ hx; simp only [List.replicate_zero, List.length_nil] at this; omega
  | succ n ih =>
   intro xs hx i hi
   cases xs with
   | nil => simp at hi
   | cons x xs =>
    simp only [List.replicate_succ, ckAll, Bool.and_eq_true] at hx
    cases i with
    | zero => exact hx.1
    | succ i => exact ih xs hx.2 i (by simpa using hi)
 have step : ∀ i, i < n → (Op.equalIn d e (valOf b ((us.drop i).take 1)) (valOf b ((vs.drop i).take 1))).run P w = .ok (eqCs ((xs.drop i).take 1) ((ys.drop i).take 1)) w := by
  intro i hi
  have g1 : i < xs.length := by omega
  have g2 : i < ys.length := by omega
  have c1 := ck1 n xs hx i g1
  have c2 := ck1 n ys hy i g2
  refine H _ _ _ _ w ?_ ?_ (rdV_take _ _ _ (rdV_drop _ _ _ rx)) (rdV_take _ _ _ (rdV_drop _ _ _ ry))
  ·rw [List.drop_eq_getElem_cons g1]
   simp only [List.take_succ_cons, List.take_zero, ckAll, c1, Bool.and_true]
  ·rw [List.drop_eq_getElem_cons g2]
   simp only [List.take_succ_cons, List.take_zero, ckAll, c2, Bool.and_true]
 have part1 : ∀ (us : List Value) i, i < us.length → (part e us.toArray i).run P w = .ok (valOf b ((us.drop i).take 1)) w := fun us i hi => by
  have := run_part (P := P) (w := w) (us := us.toArray) (o := i) hb hsz (fun _ => rfl) (by simp; omega)
  simpa using this
 have two : ∀ i (hi : i < n), eqCs ((xs.drop i).take 1) ((ys.drop i).take 1) = eqC (xs[i]'(by omega)) (ys[i]'(by omega)) := by
  intro i hi
  rw [List.drop_eq_getElem_cons (show i < xs.length by omega), List.drop_eq_getElem_cons (show i < ys.length by omega)]
  simp only [List.take_succ_cons, List.take_zero, eqCs, Bool.and_true]
 simp only [Op.equalIn, Sem.run_bind, run_underlying hu, Result.andThen_ok, run_sizeOf' hsz, Std.Legacy.Range.forIn_eq_forIn_range', Nat.mul_one]
 have hn : ([:n] : Std.Legacy.Range).size = n := by simp [Std.Legacy.Range.size]
 rw [hn]
 rw [run_forIn_elems w xs ys lx ly _ (fun i hi => ?_) n 0 (by omega)]
 ·simp only [List.drop_zero, Result.andThen_ok]
  cases eqCs xs ys <;> simp
 ·simp only [Sem.run_bind, part1 us i (by omega), part1 vs i (by omega), Result.andThen_ok, step i hi, two i hi]
  cases eqC (xs[i]'(by omega)) (ys[i]'(by omega)) <;> simp
theorem run_equal_flatA {t : TypeId} {ks : List CK} {xs ys : List DVal} {us vs : List Value} (w : World) (hf : flatA P t = some ks) (hag : tAgg P t = some true) (hx : ckAll ks xs = true) (hy : ckAll ks ys = true) (rx : rdV cur M h xs us) (ry : rdV cur M h ys vs) :
  (Op.equalIn 10000 t (.agg us.toArray) (.agg vs.toArray)).run P w = .ok (eqCs xs ys) w := by
 unfold flatA at hf
 split at hf
 ·rename_i n e hu
  split at hf
  ·rename_i c hc
   split at hf
   ·rename_i hsz
    simp only [Option.some.injEq] at hf
    subst hf
    obtain ⟨b, hb, _⟩ := flat_agg hc
    exact run_equalIn_arr w hu hb hsz xs ys us vs (fun xs ys us vs w h1 h2 r1 r2 => run_equal_flat 9999 e [c] b xs ys us vs w hc hb h1 h2 r1 r2) hx hy rx ry
   ·simp at hf
  ·simp at hf
 ·have e := run_equal_flat (P := P) 10000 t ks true xs ys us vs w hf hag hx hy rx ry
  simpa only [valOf, if_true] using e
theorem binOp_eql_ptr (t : TypeId) (a b : Option Addr) : binOp .eql t (.pointer a) (.pointer b) = (do pure (.bool (← Op.equal t (.pointer a) (.pointer b)))) := rfl
theorem binOp_neq_ptr (t : TypeId) (a b : Option Addr) : binOp .neq t (.pointer a) (.pointer b) = (do pure (.bool (!(← Op.equal t (.pointer a) (.pointer b))))) := rfl
theorem tPtr_some {t : TypeId} (hb : tPtr P t = true) : ∃ e, P.underlying t = some (.pointer e) := by
 unfold tPtr at hb
 split at hb
 ·exact ⟨_, by assumption⟩
 ·simp at hb
theorem run_equalIn_ptr_nil {t : TypeId} (hb : tPtr P t = true) (a : Option Addr) (d : Nat) : (Op.equalIn (d + 1) t (.pointer a) (.pointer none)).run P w = .ok a.isNone w := by
 obtain ⟨e, ht⟩ := tPtr_some hb
 cases a <;> simp [Op.equalIn, run_underlying ht]
theorem run_equal_ptr_nil {t : TypeId} (hb : tPtr P t = true) (a : Option Addr) : (Op.equal t (.pointer a) (.pointer none)).run P w = .ok a.isNone w :=
 run_equalIn_ptr_nil hb a 9999
theorem eqGuard_ptr (op : BinOp) (t : TypeId) (x y : Operand) (a b : Option Addr) : (eqGuard op t x y (.pointer a) (.pointer b)).run P w = .ok () w := by
 cases op <;> rfl
theorem dbin_sl {op : BinOp} {t : TypeId} {xo yo : Operand} {d : DVal} (a : Option Addr) (n cap : Nat) (hb : tSl P t = true) (hd : (match op with | .eql => some (DVal.bool a.isNone) | .neq => some (.bool (!a.isNone)) | _ => none) = some d) :
  ∃ r, (do eqGuard op t xo yo (.slice a n cap) (.slice none 0 0); binOp op t (.slice a n cap) (.slice none 0 0) : Sem Value).run P w = .ok r w ∧ rd cur M h d r := by
 obtain ⟨e, ht⟩ : ∃ e, P.underlying t = some (.slice e) := by
  unfold tSl at hb
  split at hb
  ·exact ⟨_, by assumption⟩
  ·simp at hb
 have he : (Op.equal t (.slice a n cap) (.slice none 0 0)).run P w = .ok a.isNone w := by
  have gen : ∀ d : Nat, (Op.equalIn (d + 1) t (.slice a n cap) (.slice none 0 0)).run P w = .ok a.isNone w := by
   intro d
   cases a <;> simp [Op.equalIn, run_underlying ht]
  exact gen 9999
 cases op <;> simp only [Option.some.injEq, reduceCtorEq] at hd <;> subst hd
 ·have : binOp .eql t (.slice a n cap) (.slice none 0 0) = (do pure (.bool (← Op.equal t (.slice a n cap) (.slice none 0 0)))) := rfl
  rw [this]
  have g : (eqGuard .eql t xo yo (.slice a n cap) (.slice none 0 0)).run P w = .ok () w := rfl
  simp only [Sem.run_bind, g, Result.andThen_ok, he, Sem.run_pure]
  exact ⟨_, rfl, by simp [rd]⟩
 ·have : binOp .neq t (.slice a n cap) (.slice none 0 0) = (do pure (.bool (!(← Op.equal t (.slice a n cap) (.slice none 0 0))))) := rfl
  rw [this]
  have g : (eqGuard .neq t xo yo (.slice a n cap) (.slice none 0 0)).run P w = .ok () w := rfl
  simp only [Sem.run_bind, g, Result.andThen_ok, he, Sem.run_pure]
  exact ⟨_, rfl, by simp [rd]⟩
theorem dbin_mp {op : BinOp} {t : TypeId} {xo yo : Operand} {d : DVal} (a : Option Nat) (hb : tMp P t = true) (hd : (match op with | .eql => some (DVal.bool a.isNone) | .neq => some (.bool (!a.isNone)) | _ => none) = some d) :
  ∃ r, (do eqGuard op t xo yo (.map a) (.map none); binOp op t (.map a) (.map none) : Sem Value).run P w = .ok r w ∧ rd cur M h d r := by
 obtain ⟨_, e, ht⟩ : ∃ k e, P.underlying t = some (.map k e) := by
  unfold tMp at hb
  split at hb
  ·exact ⟨_, _, by assumption⟩
  ·simp at hb
 have he : (Op.equal t (.map a) (.map none)).run P w = .ok a.isNone w := by
  have gen : ∀ d : Nat, (Op.equalIn (d + 1) t (.map a) (.map none)).run P w = .ok a.isNone w := by
   intro d
   cases a <;> simp [Op.equalIn, run_underlying ht]
  exact gen 9999
 cases op <;> simp only [Option.some.injEq, reduceCtorEq] at hd <;> subst hd
 ·have : binOp .eql t (.map a) (.map none) = (do pure (.bool (← Op.equal t (.map a) (.map none)))) := rfl
  rw [this]
  have g : (eqGuard .eql t xo yo (.map a) (.map none)).run P w = .ok () w := rfl
  simp only [Sem.run_bind, g, Result.andThen_ok, he, Sem.run_pure]
  exact ⟨_, rfl, by simp [rd]⟩
 ·have : binOp .neq t (.map a) (.map none) = (do pure (.bool (!(← Op.equal t (.map a) (.map none))))) := rfl
  rw [this]
  have g : (eqGuard .neq t xo yo (.map a) (.map none)).run P w = .ok () w := rfl
  simp only [Sem.run_bind, g, Result.andThen_ok, he, Sem.run_pure]
  exact ⟨_, rfl, by simp [rd]⟩
theorem data_beq (a b : ByteArray) : (a.data == b.data) = (a == b) := by
 obtain ⟨x⟩ := a
 obtain ⟨y⟩ := b
 rfl
theorem fdiv_inR (k : IntKind) (a : Int) (n : Nat) (ha : inR k a) : inR k (a.fdiv (2 ^ n)) := by
 have hp : (1 : Int) ≤ 2 ^ n := by have : (0:Int) < 2 ^ n := Int.pow_pos (by decide); omega
 rw [Int.fdiv_eq_ediv_of_nonneg _ (by omega)]
 have h1 : 0 ≤ a → 0 ≤ a / 2 ^ n ∧ a / 2 ^ n ≤ a := fun h => ⟨Int.ediv_nonneg h (by omega), Int.ediv_le_self _ h⟩
 have h2 : a < 0 → a / 2 ^ n < 0 ∧ a ≤ a / 2 ^ n := fun h => ⟨Int.ediv_neg_of_neg_of_pos h (by omega), (Int.le_ediv_iff_mul_le (by omega)).2 (by
  have := Int.mul_le_mul_of_nonpos_left (a := a) (by omega) hp
  omega)⟩
 cases k <;> simp only [inR] at ha ⊢ <;> (rcases Int.lt_or_le a 0 with h | h <;> first | (have := h1 h; omega) | (have := h2 h; omega) | omega)
theorem tmod_inR (k : IntKind) (a b : Int) (ha : inR k a) : inR k (a.tmod b) := by
 have h1 : 0 ≤ a → 0 ≤ a.tmod b ∧ a.tmod b ≤ a := fun h => ⟨Int.tmod_nonneg b h, by
  by_cases hb : b = 0
  ·subst hb; simp
  ·have := Int.natAbs_tmod a b
   have h5 : (a.natAbs % b.natAbs) ≤ a.natAbs := Nat.mod_le _ _
   have h6 := Int.tmod_nonneg b h
   omega⟩
 have h2 : a < 0 → a.tmod b ≤ 0 ∧ a ≤ a.tmod b := fun h => by
  have e : a.tmod b = -((-a).tmod b) := by rw [Int.neg_tmod]; omega
  have h3 := Int.tmod_nonneg b (show 0 ≤ -a by omega)
  have h4 := Int.natAbs_tmod (-a) b
  have h5 : ((-a).natAbs % b.natAbs) ≤ (-a).natAbs := Nat.mod_le _ _
  omega
 cases k <;> simp only [inR] at ha ⊢ <;> (rcases Int.lt_or_le a 0 with h | h <;> first | (have := h1 h; omega) | (have := h2 h; omega) | omega)
theorem dbin_int {op : BinOp} {t : TypeId} {xo yo : Operand} {k k' : IntKind} {a b : Int} {d : DVal} (ha : inR k a) (hd : dbin P op t (.int k a) (.int k' b) = some d) :
  ∃ r, (do eqGuard op t xo yo (.int k a) (.int k' b); binOp op t (.int k a) (.int k' b) : Sem Value).run P w = .ok r w ∧ rd cur M h d r := by
 cases op <;> simp only [dbin, ne_eq, ite_not] at hd <;> split at hd <;> (try split at hd) <;> (try (simp at hd; done)) <;> simp only [Option.some.injEq, reduceCtorEq] at hd <;> subst hd <;> rename_i hk
 case shl => simp [eqGuard, binOp, Op.shift, hk, rd, wrap_inR, iShl]
 case shr => simp [eqGuard, binOp, Op.shift, hk, rd, fdiv_inR _ _ _ ha, iShr]
 case quo => rename_i hk1; subst hk1; simp [eqGuard, binOp, Op.intDiv, hk, rd, wrap_inR]
 case rem => rename_i hk1; subst hk1; simp [eqGuard, binOp, Op.intDiv, hk, rd, tmod_inR _ _ _ ha]
 all_goals (subst hk; simp [eqGuard, binOp, Op.intArith, Op.intCmp, Op.intBits, rd, wrap_inR, iAnd, iOr, iXor, iAndNot])
theorem dbin_str {op : BinOp} {t : TypeId} {xo yo : Operand} {a b : ByteArray} {d : DVal} (hd : dbin P op t (.str a) (.str b) = some d) :
  ∃ r, (do eqGuard op t xo yo (.string a) (.string b); binOp op t (.string a) (.string b) : Sem Value).run P w = .ok r w ∧ rd cur M h d r := by
 simp only [dbin] at hd
 cases op <;> simp at hd
 case add =>
  obtain ⟨h1, rfl⟩ := hd
  have h2 : (a.size : Int) + (b.size : Int) ≤ 9223372036854775807 := by unfold maxLen at h1; omega
  simp [eqGuard, binOp, Op.stringOp, rd, h2, h1]
 all_goals (subst hd; simp [eqGuard, binOp, Op.stringOp, rd, ByteArray.toList_eq, data_beq, -beq_iff_eq])
theorem dbin_ok {op : BinOp} {t : TypeId} {xo yo : Operand} {x y d : DVal} {u v : Value} (hd : dbin P op t x y = some d) (rx : rd cur M h x u) (ry : rd cur M h y v) :
  ∃ r, (do eqGuard op t xo yo u v; binOp op t u v : Sem Value).run P w = .ok r w ∧ rd cur M h d r := by
 cases x <;> cases y <;> (try (simp [dbin] at hd; done))
 case bool.bool a b =>
  simp only [rd] at rx ry; subst rx; subst ry
  simp only [dbin] at hd
  split at hd
  ·rename_i hb
   have ht : P.underlying t = some .bool := by
    unfold tBool at hb
    split at hb
    ·assumption
    ·simp at hb
   cases op <;> simp at hd <;> subst hd <;>
    simp [eqGuard, binOp, Op.equal, Op.maxDepth, run_equalIn_bool' w _ t _ _ ht, rd]
  ·simp at hd
 case int.int k a k' b =>
  simp only [rd] at rx ry
  obtain ⟨rfl, rx⟩ := rx; obtain ⟨rfl, ry⟩ := ry
  exact dbin_int rx hd
 case str.str a b =>
  simp only [rd] at rx ry
  obtain ⟨rfl, rx⟩ := rx; obtain ⟨rfl, ry⟩ := ry
  exact dbin_str hd
 case nilp.nilp =>
  simp only [rd] at rx ry; subst rx; subst ry
  simp only [dbin] at hd
  split at hd
  ·rename_i hb
   have he := run_equal_ptr_nil (P := P) (w := w) hb none
   cases op <;> simp only [Option.some.injEq, reduceCtorEq] at hd <;> subst hd <;>
    simp only [Sem.run_bind, eqGuard_ptr, Result.andThen_ok, binOp_eql_ptr, binOp_neq_ptr, he, Sem.run_pure] <;> exact ⟨_, rfl, by simp [rd]⟩
  ·simp at hd
 case nilsl.nilsl =>
  simp only [rd] at rx ry; subst rx; subst ry
  simp only [dbin] at hd
  split at hd
  ·rename_i hb; exact dbin_sl none 0 0 hb (by simpa using hd)
  ·simp at hd
 case esl.nilsl =>
  simp only [rd] at rx ry; subst ry
  obtain ⟨ad, cap, rfl, _⟩ := rx
  simp only [dbin] at hd
  split at hd
  ·rename_i hb; exact dbin_sl (some ad) 0 cap hb (by simpa using hd)
  ·simp at hd
 case sl.nilsl k bs es =>
  cases es with
  | nil => simp [dbin] at hd
  | cons e0 es =>
   simp only [rd] at rx ry; subst ry
   obtain ⟨a, cap, rfl, _, _, _, h5⟩ := rx
   simp only [dbin] at hd
   split at hd
   ·rename_i hb
    rcases h5 with h5 | ⟨b, off, arr, ty, fz, rfl, _⟩
    ·simp at h5
    ·exact dbin_sl _ _ cap hb (by simpa using hd)
   ·simp at hd
 case nilmp.nilmp =>
  simp only [rd] at rx ry; subst rx; subst ry
  simp only [dbin] at hd
  split at hd
  ·rename_i hb; exact dbin_mp none hb (by simpa using hd)
  ·simp at hd
 case mp.nilmp ks vs =>
  simp only [rd] at rx ry; subst ry
  obtain ⟨b, es, clk, rfl, _⟩ := rx
  simp only [dbin] at hd
  split at hd
  ·rename_i hb; exact dbin_mp (some b) hb (by simpa using hd)
  ·simp at hd
 case ref.nilp =>
  simp only [rd] at rx ry; subst ry
  obtain ⟨b, off, arr, ty, fz, rfl, _, _, _⟩ := rx
  simp only [dbin] at hd
  split at hd
  ·rename_i hb
   have he := run_equal_ptr_nil (P := P) (w := w) hb (some ⟨b, off, none⟩)
   cases op <;> simp only [Option.some.injEq, reduceCtorEq] at hd <;> subst hd <;>
    simp only [Sem.run_bind, eqGuard_ptr, Result.andThen_ok, binOp_eql_ptr, binOp_neq_ptr, he, Sem.run_pure] <;> exact ⟨_, rfl, by simp [rd]⟩
  ·simp at hd
 case agg.agg xs ys =>
  simp only [rd] at rx ry
  obtain ⟨us, rfl, rx⟩ := rx
  obtain ⟨vs, rfl, ry⟩ := ry
  simp only [dbin] at hd
  split at hd
  ·simp at hd
  rename_i hgd
  split at hd
  ·simp at hd
  rename_i hag
  simp only [ne_eq, Decidable.not_not] at hag
  split at hd
  ·rename_i ks hks
   split at hd
   ·rename_i hxy
    simp only [Bool.and_eq_true] at hxy
    have e := run_equal_flatA (P := P) w hks hag hxy.1 hxy.2 rx ry
    simp only [Array.toArray_toList] at e
    have g : (eqGuard op t xo yo (.agg us) (.agg vs)).run P w = .ok () w := run_eqGuard_agg w op t xo yo us vs (by simpa using hgd)
    cases op <;> simp only [Option.some.injEq, reduceCtorEq] at hd <;> subst hd <;>
     simp only [Sem.run_bind, g, Result.andThen_ok, run_eql_struct, run_neq_struct, e] <;> exact ⟨_, rfl, by simp [rd]⟩
   ·simp at hd
  ·simp at hd
end
end Go.Dm
end
