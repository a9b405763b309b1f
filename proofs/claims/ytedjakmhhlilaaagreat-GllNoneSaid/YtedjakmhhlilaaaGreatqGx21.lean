/- Parts of a proof, laid together: EvK1, EvK2. -/
import Derived.Test.YtedjakmhhlilaaaGreatqGx20
set_option linter.unusedSimpArgs false
set_option linter.unusedVariables false
set_option linter.unusedSectionVars false
section
namespace Go.Dm
variable [DMode]
abbrev OT := Mp Ent 16
noncomputable def dropB {α : Type} (n : Nat) (l : List α) : List α := List.rec (motive := fun _ => Nat → List α) (fun _ => []) (fun x t ih n => Bool.rec (ih (Nat.sub n 1)) (x :: t) (Nat.beq n 0)) l n
noncomputable def takeB {α : Type} (n : Nat) (l : List α) : List α := List.rec (motive := fun _ => Nat → List α) (fun _ => []) (fun x _ ih n => Bool.rec (x :: ih (Nat.sub n 1)) [] (Nat.beq n 0)) l n
noncomputable def appendB {α : Type} (l l' : List α) : List α := List.rec (motive := fun _ => List α) l' (fun x _ ih => x :: ih) l
noncomputable def nthB {α : Type} (l : List α) (n : Nat) : Option α := List.rec (motive := fun _ => Nat → Option α) (fun _ => none) (fun x _ ih n => Bool.rec (ih (Nat.sub n 1)) (some x) (Nat.beq n 0)) l n
noncomputable def setB {α : Type} (l : List α) (n : Nat) (y : α) : List α := List.rec (motive := fun _ => Nat → List α) (fun _ => []) (fun x t ih n => Bool.rec (x :: ih (Nat.sub n 1)) (y :: t) (Nat.beq n 0)) l n
theorem dropB_eq {α : Type} : ∀ (l : List α) (n : Nat), dropB n l = l.drop n
 | [], n => by simp [dropB]
 | x :: t, n => by
  show Bool.rec (motive := fun _ => List α) (dropB (Nat.sub n 1) t) (x :: t) (Nat.beq n 0) = _
  cases n with
  | zero => rfl
  | succ n => exact dropB_eq t n
theorem takeB_eq {α : Type} : ∀ (l : List α) (n : Nat), takeB n l = l.take n
 | [], n => by simp [takeB]
 | x :: t, n => by
  show Bool.rec (motive := fun _ => List α) (x :: takeB (Nat.sub n 1) t) [] (Nat.beq n 0) = _
  cases n with
  | zero => rfl
  | succ n => exact congrArg (x :: ·) (takeB_eq t n)
theorem appendB_eq {α : Type} (l' : List α) : ∀ (l : List α), appendB l l' = l ++ l'
 | [] => rfl
 | x :: t => congrArg (x :: ·) (appendB_eq l' t)
theorem nthB_eq {α : Type} : ∀ (l : List α) (n : Nat), nthB l n = l[n]?
 | [], n => rfl
 | x :: t, n => by
  show Bool.rec (motive := fun _ => Option α) (nthB t (Nat.sub n 1)) (some x) (Nat.beq n 0) = _
  cases n with
  | zero => rfl
  | succ n => exact (nthB_eq t n).trans (by simp)
theorem setB_eq {α : Type} (y : α) : ∀ (l : List α) (n : Nat), setB l n y = l.set n y
 | [], n => rfl
 | x :: t, n => by
  show Bool.rec (motive := fun _ => List α) (x :: setB t (Nat.sub n 1) y) (y :: t) (Nat.beq n 0) = _
  cases n with
  | zero => rfl
  | succ n => exact congrArg (x :: ·) (setB_eq y t n)
noncomputable def spliceB (cells : List DVal) (off : Nat) (cs : List DVal) : List DVal := appendB (takeB off cells) (appendB cs (dropB (off + cs.length) cells))
theorem spliceB_eq (cells : List DVal) (off : Nat) (cs : List DVal) : spliceB cells off cs = splice cells off cs := by
 unfold spliceB splice
 rw [appendB_eq, appendB_eq, takeB_eq, dropB_eq, List.append_assoc]
abbrev Fnd := Nat → Option Ent
def IsF (F : Fnd) (own : List Ent) : Prop := ∀ id, F id = findE own id
def loc1 (F : Fnd) : DVal → List Ent
 | .bx id _ _ => (F id).toList
 | .rx id _ _ _ _ => (F id).toList
 | .osl id _ => (F id).toList
 | .vw id _ _ _ _ _ => (F id).toList
 | .omp id _ => (F id).toList
 | .pk id _ => (F id).toList
 | _ => []
section
variable {F : Fnd} {own : List Ent}
theorem find1 (h : IsF F own) (id : Nat) : findE (F id).toList id = findE own id := by
 rw [h id]
 cases hf : findE own id with
 | none => rfl
 | some e =>
  have := (findE_mem hf).2
  simp [findE, this]
theorem isCur1 (h : IsF F own) (id r : Nat) : isCur (F id).toList id r = isCur own id r := by unfold isCur; rw [find1 h]
theorem cellsAt1 (h : IsF F own) (d : DVal) : cellsAt (loc1 F d) d = cellsAt own d := by
 cases d <;> simp only [cellsAt, loc1, find1 h]
theorem rowsOf1 (h : IsF F own) (d : DVal) : rowsOf (loc1 F d) d = rowsOf own d := by
 cases d <;> simp only [rowsOf, loc1, find1 h]
theorem mapOf1 (h : IsF F own) (d : DVal) : mapOf (loc1 F d) d = mapOf own d := by
 cases d <;> simp only [mapOf, loc1, find1 h]
theorem rowsN1 (h : IsF F own) (d : DVal) : rowsN (loc1 F d) d = rowsN own d := by
 unfold rowsN
 split <;> first | rfl | rw [rowsOf1 h]
theorem destOf1 (h : IsF F own) (et k bs : Nat) (d : DVal) : destOf (loc1 F d) et k bs d = destOf own et k bs d := by
 cases d <;> simp only [destOf, loc1, find1 h]
theorem oneO1 (h : IsF F own) (d : DVal) : oneO (loc1 F d) d = oneO own d := by
 cases d <;> simp only [oneO, loc1, find1 h, isCur1 h]
 rename_i id r
 have := rowsOf1 h (.osl id r)
 simp only [loc1] at this
 rw [this]
end
def plainK (F : Fnd) (d : DVal) : Bool := (cellsD d).all fun c => oneO (loc1 F c) c
theorem plainK_eq {F : Fnd} {own : List Ent} (h : IsF F own) (d : DVal) : plainK F d = plainD own d := by
 unfold plainK plainD
 congr 1
 funext c
 exact oneO1 h c
section
variable (P : Program) (F : Fnd) (e : Operand → DVal)
def kPick (c a b : DVal) : Option DVal := match c with
 | .bool t => if pickB t a b then some (pickV t a b) else none
 | _ => none
def kFA (x : Option (Nat × Nat × Bool)) (d : DVal) : Option DVal := match x, d with
 | some (off, n, _), .bx id r o => if n != 0 && isCur (F id).toList id r then some (.bx id r (o + off)) else none
 | some (off, n, _), .rx id r k i j => if n != 0 && isCur (F id).toList id r then some (.rx id r k i (j + off)) else none
 | some (off, n, _), .ref cs => if n != 0 then some (.ref (cs.drop off)) else none
 | _, _ => none
def kLoad (ag : Option Bool) (n : Option Nat) (cs : Option (List DVal)) : Option DVal := match ag, n, cs with
 | some true, some n, some cs => if decide (n ≤ cs.length) then some (.agg (cs.take n)) else none
 | some false, _, some (c :: _) => some c
 | _, _, _ => none
def kIA (t : TypeId) (x i : DVal) : Option DVal := match i with
 | .int _ n => (match tElem P t with
  | some (k, _) => (match rowsOf (loc1 F x) x with
   | some (k', _, es) => if k == k' && decide (0 ≤ n) && decide (n < es.length) then some (idxVal (loc1 F x) x n) else none
   | none => none)
  | none => (match tArr P t with
   | some (len, k) => if arrB (loc1 F x) x len n then some (arrV x k n) else none
   | none => none))
 | _ => none
def kField (x : Option (Nat × Nat × Bool)) (d : DVal) : Option DVal := match x, d with
 | some (off, n, b), .agg cs => if decide (off + n ≤ cs.length) && (b || n == 1) then some (if b then .agg ((cs.drop off).take n) else (cs.drop off).headD .any) else none
 | _, _ => none
def kBin (op : BinOp) (t : TypeId) (x y : DVal) : Option DVal := match dbin P op t x y with
 | some d => some d
 | none => (match op with
  | .eql => (nilEq P (loc1 F x) t x y).map .bool
  | .neq => (nilEq P (loc1 F x) t x y).map fun b => .bool (!b)
  | _ => none)
def kUn (op : UnOp) (x : DVal) : Option DVal := match op, x with
 | .not, .bool b => some (.bool (!b))
 | .neg, .int k n => some (.int k (k.wrap (0 - n)))
 | _, _ => none
def kConv (src dst : TypeId) (x : DVal) : Option DVal := if (P.underlying src).isSome then (match x with
 | .int _ n => (tInt P dst).map fun k => .int k (k.wrap n)
 | .str s => if tStr P dst then some (.str s) else none
 | _ => none) else none
def kExt (x : DVal) (i : Nat) : Option DVal := match x with
 | .tup vs => vs[i]?
 | _ => none
def kNil (x : DVal) : Option DVal := match x with
 | .bx id r o => if isCur (F id).toList id r then some (.bx id r o) else none
 | .rx id r k i j => if isCur (F id).toList id r then some (.rx id r k i j) else none
 | .ref cs => some (.ref cs)
 | .fn (.func g) a b => some (.fn (.func g) a b)
 | _ => none
def kIdx (t : TypeId) (x i : DVal) : Option DVal := match x, i with
 | .str s, .int _ n => if tStr P t && decide (0 ≤ n) && decide (n < s.size) then some (.int .u8 (s.data.toList.getD n.toNat 0).toNat) else none
 | .agg cs, .int _ n => (match tArrS P t with
  | some len => if decide (0 ≤ n) && decide (n < len) && decide (len ≤ cs.length) then some ((cs.drop n.toNat).headD .any) else none
  | none => none)
 | _, _ => none
def kBuild (t : TypeId) (parts : List (Nat × DVal)) : Option DVal := match tZero P t with
 | some z => if (parts.all fun p => plainK F p.2) && tParts P t then (fillD (tPlace P t) z parts).map .agg else none
 | none => none
def kBSl (t : TypeId) (len : Nat) (parts : List (Nat × DVal)) : Option DVal := match tElem P t with
 | some (k, bs) => if (parts.map (·.1) == List.range len) && decide (len * k ≤ 16777216) && decide (len * bs ≤ 150000000000000) && decide (len ≤ 16777216) && decide (0 < k) && (parts.all fun p => plainK F p.2 && (cellsD p.2).length == k) && tElemZ P t then
  some (.sl k bs (parts.map fun p => cellsD p.2)) else none
 | none => none
def kLook (t : TypeId) (m x : DVal) (ok : Bool) : Option DVal := match tMap P t, mapOf (loc1 F m) m with
 | some (kt, et), some (ks, vs) => if keyOK P kt x && ks.all (keyOK P kt) && (tZeroD P et).isSome then
  (let r := lookI ks x
   let v := match r with | some j => vs.getD j .any | none => (tZeroD P et).getD .any
   some (if ok then .tup [v, .bool r.isSome] else v)) else none
 | _, _ => none
def kBi (b : Builtin) (l : List DVal) (ts : List TypeId) : Option DVal := match l with
 | [d] => if bPreB P (loc1 F d) b [d] ts then some (bVal (loc1 F d) b [d]) else none
 | l => if bPreB P [] b l ts then some (bVal [] b l) else none
def kCall (c : Call) (l : List DVal) : Option DVal := match c.callee with
 | .builtin .cap => capV P (.builtin .cap) l c.argTypes.toList
 | .builtin b => kBi P F b l c.argTypes.toList
 | _ => none
def neuK : Op → Option DVal
 | .move x => some (e x)
 | .assign x => some (e x)
 | .pick c a b => kPick (e c) (e a) (e b)
 | .fieldAddr t x f => kFA F (tField P t f) (e x)
 | .load t a => kLoad (tAgg P t) (tCells P t) (cellsAt (loc1 F (e a)) (e a))
 | .indexAddr t x i => (match x with
  | .global g => gAddr P (F g).toList t g (e i)
  | x => kIA P F t (e x) (e i))
 | .index t x i => kIdx P t (e x) (e i)
 | .field t x f => kField (tField P t f) (e x)
 | .binOp op t x y _ => kBin P F op t (e x) (e y)
 | .unOp op _ x => kUn op (e x)
 | .convert src dst x => kConv P src dst (e x)
 | .extract x i => kExt (e x) i
 | .makeFunc f us cs => some (.fn f (us.toList.map e) (cs.toList.map e))
 | .nilCheck x => kNil F (e x)
 | .build t parts => kBuild P F t (parts.toList.map fun p => (p.1, e p.2))
 | .buildSlice t len parts => kBSl P F t len (parts.toList.map fun p => (p.1, e p.2))
 | .lookup t x i ok => kLook P F t (e x) (e i) ok
 | .call c => kCall P F c (c.args.toList.map e)
 | .slice t x l h m => neuV P (loc1 F (e x)) e (.slice t x l h m)
 | .typeAssert x _ a ok => taV P a ok (e x)
 | .makeInterface t x => if isIfcT P t then none else some (.ifc t (e x))
 | _ => none
end
section
variable {P : Program} {F : Fnd} {own : List Ent} {e : Operand → DVal}
theorem idxVal1 (h : IsF F own) (d : DVal) (n : Int) : idxVal (loc1 F d) d n = idxVal own d n := by
 have := rowsOf1 h d
 unfold idxVal
 cases d <;> simp only [loc1] at this ⊢ <;> first | rfl | rw [this]
theorem arrB1 (h : IsF F own) (d : DVal) (len : Nat) (n : Int) : arrB (loc1 F d) d len n = arrB own d len n := by
 unfold arrB
 cases d <;> simp only [loc1, isCur1 h]
theorem nilEq1 (h : IsF F own) (t : TypeId) (x y : DVal) : nilEq P (loc1 F x) t x y = nilEq P own t x y := by
 unfold nilEq
 cases x <;> cases y <;> simp only [loc1, isCur1 h, find1 h]
theorem sl1 (h : IsF F own) (t : TypeId) (x : Operand) (l h' m : Option Operand) : neuV P (loc1 F (e x)) e (.slice t x l h' m) = neuV P own e (.slice t x l h' m) := by
 have hr := rowsOf1 h (e x)
 unfold neuV
 have e1 : xVal P (loc1 F (e x)) e (.slice t x l h' m) = xVal P own e (.slice t x l h' m) := by
  cases m with
  | none => rfl
  | some m =>
   simp only [xVal]
   cases hx : e x <;> rw [hx] at hr <;> simp only
   rw [hr]
 have e2 : nPreB P (loc1 F (e x)) e (.slice t x l h' m) = nPreB P own e (.slice t x l h' m) := by
  simp only [nPreB]
  cases hx : e x <;> rw [hx] at hr <;> simp only
  ·rw [hr]
  ·rw [hr]
 have e3 : nVal P (loc1 F (e x)) e (.slice t x l h' m) = nVal P own e (.slice t x l h' m) := by
  simp only [nVal]
  cases hx : e x <;> rw [hx] at hr <;> simp only
  rw [hr]
 rw [e1, e2, e3]
theorem bi1 (h : IsF F own) (b : Builtin) (d : DVal) (ts : List TypeId) : bPreB P (loc1 F d) b [d] ts = bPreB P own b [d] ts ∧ bVal (loc1 F d) b [d] = bVal own b [d] := by
 have hr := rowsOf1 h d
 have hm := mapOf1 h d
 constructor
 ·unfold bPreB
  cases b <;> try rfl
  case len =>
   cases ts with
   | nil => rfl
   | cons t ts =>
    cases ts with
    | nil => cases d <;> simp only [hr, hm]
    | cons _ _ => rfl
  all_goals (cases d <;> rfl)
 ·unfold bVal
  cases b <;> try rfl
  case len => cases d <;> simp only [hr, hm]
  all_goals (cases d <;> rfl)
theorem bi2 {b : Builtin} {l : List DVal} {ts : List TypeId} (hl : ∀ d, l ≠ [d]) (h : bPreB P [] b l ts = true) : bPreB P own b l ts = true ∧ bVal [] b l = bVal own b l := by
 unfold bPreB at h
 split at h
 ·exact absurd rfl (hl _)
 ·exact ⟨by simpa [bPreB] using h, rfl⟩
 ·exact ⟨by simpa [bPreB] using h, rfl⟩
 ·simp at h
theorem neuK_ok (hF : IsF F own) {o : Oper} {d : DVal} (h : neuK P F e o.op = some d) : NeuF P own o e d := by
 unfold NeuF
 cases ho : o.op <;> rw [ho] at h <;> simp only [neuK, reduceCtorEq] at h
 case move x => simp only [Option.some.injEq] at h; exact .inl ⟨trivial, h.symm⟩
 case assign x => simp only [Option.some.injEq] at h; exact .inl ⟨trivial, h.symm⟩
 case pick c a b =>
  unfold kPick at h
  split at h
  ·rename_i t hc
   split at h
   ·rename_i hp
    simp only [Option.some.injEq] at h
    exact .inl ⟨nPreB_ok (by simp only [nPreB, hc]; exact hp), by simp only [nVal, hc]; exact h.symm⟩
   ·simp at h
  ·simp at h
 case fieldAddr t x f =>
  unfold kFA at h
  split at h
  ·rename_i h1 h2
   split at h
   ·rename_i hp
    rw [isCur1 hF] at hp
    simp only [Option.some.injEq] at h
    exact .inl ⟨nPreB_ok (by simp only [nPreB, h1, h2]; exact hp), by simp only [nVal, h1, h2]; exact h.symm⟩
   ·simp at h
  ·rename_i h1 h2
   split at h
   ·rename_i hp
    rw [isCur1 hF] at hp
    simp only [Option.some.injEq] at h
    exact .inl ⟨nPreB_ok (by simp only [nPreB, h1, h2]; exact hp), by simp only [nVal, h1, h2]; exact h.symm⟩
   ·simp at h
  ·rename_i h1 h2
   split at h
   ·rename_i hp
    simp only [Option.some.injEq] at h
    exact .inl ⟨nPreB_ok (by simp only [nPreB, h1, h2]; exact hp), by simp only [nVal, h1, h2]; exact h.symm⟩
   ·simp at h
  ·simp at h
 case load t a =>
  rw [cellsAt1 hF] at h
  unfold kLoad at h
  split at h
  ·rename_i h1 h2 h3
   split at h
   ·rename_i hp
    simp only [Option.some.injEq] at h
    exact .inl ⟨nPreB_ok (by simp only [nPreB, h1, h2, h3]; exact hp), by simp only [nVal, h1, h2, h3]; exact h.symm⟩
   ·simp at h
  ·rename_i h1 h3
   simp only [Option.some.injEq] at h
   exact .inl ⟨nPreB_ok (by simp only [nPreB, h1, h3]), by simp only [nVal, h1, h3, List.headD_cons]; exact h.symm⟩
  ·simp at h
 case indexAddr t x i =>
  have old : (∀ g, x ≠ .global g) → kIA P F t (e x) (e i) = some d → (nPre P own e (.indexAddr t x i) ∧ d = nVal P own e (.indexAddr t x i)) ∨ xVal P own e (.indexAddr t x i) = some d := by
   intro hxg h
   unfold kIA at h
   split at h
   ·rename_i kk n hi
    split at h
    ·rename_i k bs ht
     split at h
     ·rename_i k' bs' es hr
      rw [rowsOf1 hF] at hr
      split at h
      ·rename_i hp
       simp only [Option.some.injEq] at h
       rw [idxVal1 hF] at h
       exact .inl ⟨nPreB_ok (by simp only [nPreB, hi, ht, hr]; exact hp), by simp only [nVal, hi, ht]; exact h.symm⟩
      ·simp at h
     ·simp at h
    ·rename_i ht
     split at h
     ·rename_i len k ha
      split at h
      ·rename_i hp
       rw [arrB1 hF] at hp
       simp only [Option.some.injEq] at h
       exact .inl ⟨nPreB_ok (by simp only [nPreB, hi, ht, ha]; exact hp), by simp only [nVal, hi, ht, ha]; exact h.symm⟩
      ·simp at h
     ·simp at h
   ·simp at h
  cases x with
  | global g =>
   refine .inr ?_
   show gAddr P own t g (e i) = some d
   simp only at h
   unfold gAddr at h ⊢
   rw [find1 hF] at h
   exact h
  | _ => exact old (fun g hg => by cases hg) h
 case index t x i =>
  unfold kIdx at h
  split at h
  ·rename_i h1 h2
   split at h
   ·rename_i hp
    simp only [Option.some.injEq] at h
    exact .inl ⟨nPreB_ok (by simp only [nPreB, h1, h2]; exact hp), by simp only [nVal, h1, h2]; exact h.symm⟩
   ·simp at h
  ·rename_i h1 h2
   split at h
   ·rename_i h3
    split at h
    ·rename_i hp
     simp only [Option.some.injEq] at h
     exact .inl ⟨nPreB_ok (by simp only [nPreB, h1, h2, h3]; exact hp), by simp only [nVal, h1, h2]; exact h.symm⟩
    ·simp at h
   ·simp at h
  ·simp at h
 case field t x f =>
  unfold kField at h
  split at h
  ·rename_i h1 h2
   split at h
   ·rename_i hp
    simp only [Option.some.injEq] at h
    exact .inl ⟨nPreB_ok (by simp only [nPreB, h1, h2]; exact hp), by simp only [nVal, h1, h2]; exact h.symm⟩
   ·simp at h
  ·simp at h
 case binOp op t x y ty =>
  unfold kBin at h
  split at h
  ·rename_i d0 hd
   simp only [Option.some.injEq] at h
   subst h
   exact .inl ⟨by simp only [nPre, hd]; rfl, by simp only [nVal, hd]; rfl⟩
  ·rw [nilEq1 hF] at h
   cases op <;> simp only [reduceCtorEq] at h
   ·exact .inr (by simp only [xVal]; exact h)
   ·exact .inr (by simp only [xVal]; exact h)
 case unOp op t x =>
  unfold kUn at h
  split at h
  ·rename_i hx
   simp only [Option.some.injEq] at h
   exact .inl ⟨nPreB_ok (by simp only [nPreB, hx]), by simp only [nVal, hx]; exact h.symm⟩
  ·rename_i hx
   simp only [Option.some.injEq] at h
   exact .inl ⟨nPreB_ok (by simp only [nPreB, hx]), by simp only [nVal, hx]; exact h.symm⟩
  ·simp at h
 case convert src dst x =>
  unfold kConv at h
  split at h
  ·rename_i hs
   split at h
   ·rename_i hx
    rw [Option.map_eq_some_iff] at h
    obtain ⟨k, hk, rfl⟩ := h
    exact .inl ⟨nPreB_ok (by simp only [nPreB, hs, hx, hk]; rfl), by simp only [nVal, hx, hk]⟩
   ·rename_i hx
    split at h
    ·rename_i ht
     simp only [Option.some.injEq] at h
     exact .inl ⟨nPreB_ok (by simp only [nPreB, hs, hx, ht]; rfl), by simp only [nVal, hx]; exact h.symm⟩
    ·simp at h
   ·simp at h
  ·simp at h
 case extract x i =>
  unfold kExt at h
  split at h
  ·rename_i vs hx
   have hlt := (List.getElem?_eq_some_iff.1 h).1
   exact .inl ⟨nPreB_ok (by simp only [nPreB, hx]; simpa using hlt), by simp only [nVal, hx, List.getD_eq_getElem?_getD, h]; rfl⟩
  ·simp at h
 case makeFunc f us cs => simp only [Option.some.injEq] at h; exact .inl ⟨trivial, h.symm⟩
 case typeAssert x xt a ok => exact .inr (by simp only [xVal]; exact h)
 case makeInterface t x =>
  split at h
  ·simp at h
  ·rename_i hi
   simp only [Option.some.injEq] at h
   refine .inl ⟨?_, h.symm⟩
   simp only [nPre]
   unfold isIfcT at hi
   cases hq : P.underlying t with
   | none => simp [hq] at hi
   | some q => cases q <;> simp [hq] at hi ⊢
 case nilCheck x =>
  unfold kNil at h
  split at h
  ·rename_i hx
   split at h
   ·rename_i hp
    rw [isCur1 hF] at hp
    simp only [Option.some.injEq] at h
    exact .inl ⟨nPreB_ok (by simp only [nPreB, hx]; exact hp), by simp only [nVal, hx]; exact h.symm⟩
   ·simp at h
  ·rename_i hx
   split at h
   ·rename_i hp
    rw [isCur1 hF] at hp
    simp only [Option.some.injEq] at h
    exact .inl ⟨nPreB_ok (by simp only [nPreB, hx]; exact hp), by simp only [nVal, hx]; exact h.symm⟩
   ·simp at h
  ·rename_i hx
   simp only [Option.some.injEq] at h
   exact .inl ⟨nPreB_ok (by simp only [nPreB, hx]), by simp only [nVal, hx]; exact h.symm⟩
  ·rename_i hx
   simp only [Option.some.injEq] at h
   exact .inl ⟨nPreB_ok (by simp only [nPreB, hx]), by simp only [nVal, hx]; exact h.symm⟩
  ·simp at h
 case build t parts =>
  unfold kBuild at h
  split at h
  ·rename_i z hz
   split at h
   ·rename_i hp
    simp only [Bool.and_eq_true] at hp
    rw [Option.map_eq_some_iff] at h
    obtain ⟨cs, hc, rfl⟩ := h
    have hpl : (parts.toList.all fun p => plainD own (e p.2)) = true := by
     have := hp.1
     rw [List.all_map] at this
     simpa only [Function.comp_def, plainK_eq hF] using this
    exact .inl ⟨nPreB_ok (by simp only [nPreB, hz, hc, hpl, hp.2]; rfl), by simp only [nVal, hz, hc]; rfl⟩
   ·simp at h
  ·simp at h
 case buildSlice t len parts =>
  unfold kBSl at h
  split at h
  ·rename_i k bs ht
   split at h
   ·rename_i hp
    simp only [Option.some.injEq] at h
    subst h
    rw [List.map_map, List.all_map] at hp
    simp only [Function.comp_def, plainK_eq hF] at hp
    exact .inl ⟨nPreB_ok (by simp only [nPreB, ht]; exact hp), by simp only [nVal, ht, List.map_map, Function.comp_def]⟩
   ·simp at h
  ·simp at h
 case lookup t x i ok =>
  unfold kLook at h
  rw [mapOf1 hF] at h
  split at h
  ·rename_i h1 h2
   split at h
   ·rename_i hp
    simp only [Option.some.injEq] at h
    exact .inl ⟨nPreB_ok (by simp only [nPreB, h1, h2]; exact hp), by simp only [nVal, h1, h2]; exact h.symm⟩
   ·simp at h
  ·simp at h
 case call c =>
  unfold kCall at h
  split at h
  ·rename_i hc
   exact .inr (by simp only [xVal, hc]; exact h)
  ·rename_i b _ hc
   unfold kBi at h
   split at h
   ·rename_i d0 hl
    obtain ⟨q1, q2⟩ := bi1 (P := P) hF b d0 c.argTypes.toList
    split at h
    ·rename_i hp
     simp only [Option.some.injEq] at h
     rw [q1] at hp
     rw [q2] at h
     exact .inl ⟨nPreB_ok (by simp only [nPreB, hc, hl]; exact hp), by simp only [nVal, hc, hl]; exact h.symm⟩
    ·simp at h
   ·rename_i hl
    split at h
    ·rename_i hp
     simp only [Option.some.injEq] at h
     obtain ⟨q1, q2⟩ := bi2 (own := own) (fun d hd => hl d hd) hp
     exact .inl ⟨nPreB_ok (by simp only [nPreB, hc]; exact q1), by simp only [nVal, hc]; rw [← q2]; exact h.symm⟩
    ·simp at h
  ·simp at h
 case slice t x l h' m =>
  rw [sl1 hF] at h
  have := neuV_ok (P := P) (own := own) (e := e) (o := o) (d := d) (by rw [ho]; exact h)
  unfold NeuF at this
  rw [ho] at this
  exact this
end
section
variable (P : Program) (F : Fnd) (dst : Option Nat) (r : Nat)
def kBox (x : DVal) : Option (DVal × Ent) := if dst.isSome && plainK F x then some (.bx r r 0, ⟨r, r, .box (cellsD x)⟩) else none
def kAlloc (t : TypeId) : Option (DVal × Ent) := match tZero P t with
 | some z => if dst.isSome && z.all (oneO []) then some (.bx r r 0, ⟨r, r, .box z⟩) else none
 | none => none
def kStB (n : Option Nat) (id r' off : Nat) (x : DVal) (c : List DVal) (en : Ent) : Option (DVal × Ent) := match en.obj with
 | .box cs => if en.r == r' && dst.isNone && n == some c.length && plainK F x && decide (off + c.length ≤ cs.length) then some (.any, ⟨id, r', .box (splice cs off c)⟩) else none
 | _ => none
def kStR (n : Option Nat) (id r' k i j : Nat) (x : DVal) (c : List DVal) (en : Ent) : Option (DVal × Ent) := match en.obj with
 | .row et k' bs es => (match es[i]? with
  | some c0 => if en.r == r' && k' == k && dst.isNone && n == some c.length && plainK F x && decide (j + c.length ≤ k) then some (.any, ⟨id, r', .row et k' bs (es.set i (splice c0 j c))⟩) else none
  | none => none)
 | _ => none
def kStore (n : Option Nat) (a x : DVal) : Option (DVal × Ent) := match a with
 | .bx id r' off => (F id).bind (kStB F dst n id r' off x (cellsD x))
 | .rx id r' k i j => (F id).bind (kStR F dst n id r' k i j x (cellsD x))
 | _ => none
def kMake (t : TypeId) (l c : DVal) : Option (DVal × Ent) := match l, c with
 | .int _ n, .int _ m => (match dst, tElem P t, tElemId P t, tZeroE P t with
  | some _, some (k, bs), some et, some zs => if zs.all (oneO []) && zs.length == k && decide (0 ≤ n) && decide (n ≤ m) && decide (m * bs ≤ 150000000000000) && decide (m ≤ 9223372036854775807) then
   some (.osl r r, ⟨r, r, .row et k bs (List.replicate n.toNat zs)⟩) else none
  | _, _, _, _ => none)
 | _, _ => none
def kBS0 (t : TypeId) (len : Nat) (parts : List (Nat × DVal)) : Option (DVal × Ent) := match len, dst, tElem P t, tElemId P t, kBSl P F t len parts with
 | 0, some _, some (k, bs), some et, some _ => some (.osl r r, ⟨r, r, .row et k bs (parts.map fun p => cellsD p.2)⟩)
 | _, _, _, _, _ => none
def kMMap (t : TypeId) (rv : Option Operand) : Option (DVal × Ent) := match rv, dst, tMap P t with
 | none, some _, some _ => some (.omp r r, ⟨r, r, .map [] []⟩)
 | _, _, _ => none
def kUpd (t : TypeId) (m k x : DVal) : Option (DVal × Ent) := match m with
 | .omp id r' => (match F id, tMap P t with
  | some en, some (kt, _) => (match en.obj with
   | .map ks vs => if en.r == r' && dst.isNone && keyOK P kt k && ks.all (keyOK P kt) then some (.any, ⟨id, r', .map (updK ks k) (updV ks vs k x)⟩) else none
   | _ => none)
  | _, _ => none)
 | _ => none
def kApp2 (t t' : TypeId) (k bs : Nat) (et : TypeId) (a b : DVal) : Option (DVal × Ent) := match strOf b with
 | some x => (match destOf (loc1 F a) et k bs a with
  | some (id, es) => if tStr P t' && zeroOK P t && k == 1 && decide (bs ≤ 65536) && decide ((es.length + x.size) * bs ≤ 150000000000000) && decide (es.length + x.size ≤ 9223372036854775807) then
   some (.osl (id.getD r) r, ⟨id.getD r, r, .row et k bs (es ++ bytesD x)⟩) else none
  | none => none)
 | none => (match destOf (loc1 F a) et k bs a, rowsN (loc1 F b) b with
  | some (id, es), some (k2, es2) => if t' == t && zeroOK P t && decide (0 < k) && (k2 == k || es2.isEmpty) && decide (bs ≤ 65536) && decide ((es.length + es2.length) * bs ≤ 150000000000000) && decide (es.length + es2.length ≤ 9223372036854775807) then
   some (.osl (id.getD r) r, ⟨id.getD r, r, .row et k bs (es ++ es2)⟩) else none
  | _, _ => none)
def kApp (l : List DVal) (ts : List TypeId) : Option (DVal × Ent) := match l, ts with
 | [a, b], [t, t'] => (match dst, tElem P t, tElemId P t with
  | some _, some (k, bs), some et => kApp2 P F r t t' k bs et a b
  | _, _, _ => none)
 | _, _ => none
def kClear (l : List DVal) (ts : List TypeId) : Option (DVal × Ent) := match l, ts with
 | [d], [t] => (match tElem P t, tZeroE P t with
  | some (k, _), some zs => (match d with
   | .osl id r' => (match F id with
    | some en => (match en.obj with
     | .row et k' bs es => if en.r == r' && k' == k && zs.all (oneO []) && zs.length == k && decide (0 < k) then some (.tup [], ⟨id, r', .row et k' bs (clearD es 0 es.length zs)⟩) else none
     | _ => none)
    | none => none)
   | .vw id r' k0 _ i m => (match F id with
    | some en => (match en.obj with
     | .row et k' bs es => if en.r == r' && k' == k && k0 == k && zs.all (oneO []) && zs.length == k && decide (0 < k) && decide (i + m ≤ es.length) then some (.tup [], ⟨id, r', .row et k' bs (clearD es i m zs)⟩) else none
     | _ => none)
    | none => none)
   | _ => none)
  | _, _ => none)
 | _, _ => none
def kBuiltin (b : Builtin) (l : List DVal) (ts : List TypeId) : Option (DVal × Ent) := match b with
 | .append => kApp P F dst r l ts
 | .clear => kClear P F l ts
 | _ => none
variable (e : Operand → DVal)
def effK : Op → Option (DVal × Ent)
 | .box _ x => kBox F dst r (e x)
 | .alloc t => kAlloc P dst r t
 | .store t a x => kStore F dst (tCells P t) (e a) (e x)
 | .makeSlice t l c => kMake P dst r t (e l) (e c)
 | .makeMap t rv => kMMap P dst r t rv
 | .buildSlice t len parts => kBS0 P F dst r t len (parts.toList.map fun p => (p.1, e p.2))
 | .mapUpdate t m k x => kUpd P F dst t (e m) (e k) (e x)
 | .call c => match c.callee with
  | .builtin b => kBuiltin P F dst r b (c.args.toList.map e) c.argTypes.toList
  | _ => none
 | _ => none
end
section
variable {P : Program} {F : Fnd} {own : List Ent} {e : Operand → DVal}
theorem wdst_some {o : Oper} {r : Nat} (h : o.dst.isSome = true) : (wdst o r).dst = some r := by
 cases hd : o.dst with
 | none => rw [hd] at h; simp at h
 | some i => simp [wdst, hd]
theorem kBSl_pre (hF : IsF F own) {t : TypeId} {len : Nat} {parts : Array (Nat × Operand)} {d : DVal} (h : kBSl P F t len (parts.toList.map fun p => (p.1, e p.2)) = some d) : nPreB P own e (.buildSlice t len parts) = true := by
 unfold kBSl at h
 split at h
 ·rename_i k bs ht
  split at h
  ·rename_i hp
   simp only [nPreB, ht]
   simpa [List.map_map, Function.comp_def, List.all_map, plainK_eq hF] using hp
  ·simp at h
 ·simp at h
theorem effK_ok (hF : IsF F own) {o : Oper} {r : Nat} {d : DVal} {en : Ent} (h : effK P F o.dst r e o.op = some (d, en)) :
  ∃ x, eRes P (wdst o r) e own r = some x ∧ x.pre ∧ d = x.d ∧ x.own = upE own en.id en.r en.obj := by
 have fin : (∃ x, eRes P (wdst o r) e own r = some x ∧ d = x.d ∧ x.own = upE own en.id en.r en.obj) → ePreB P own e o = true → ∃ x, eRes P (wdst o r) e own r = some x ∧ x.pre ∧ d = x.d ∧ x.own = upE own en.id en.r en.obj := by
  rintro ⟨x, h1, h2, h3⟩ hb
  exact ⟨x, h1, ePreB_ok h1 hb, h2, h3⟩
 have hop : (wdst o r).op = o.op := rfl
 cases ho : o.op <;> rw [ho] at h <;> simp only [effK, reduceCtorEq] at h
 case box t x =>
  unfold kBox at h
  split at h
  ·rename_i hc
   simp only [Bool.and_eq_true] at hc
   rw [plainK_eq hF] at hc
   simp only [Option.some.injEq, Prod.mk.injEq] at h
   obtain ⟨rfl, rfl⟩ := h
   refine fin ⟨_, by unfold eRes; rw [hop, ho]; simp only [wdst_some hc.1]; rfl, rfl, rfl⟩ (by unfold ePreB; rw [ho]; exact hc.2)
  ·simp at h
 case alloc t =>
  unfold kAlloc at h
  split at h
  ·rename_i z hz
   split at h
   ·rename_i hc
    simp only [Bool.and_eq_true] at hc
    simp only [Option.some.injEq, Prod.mk.injEq] at h
    obtain ⟨rfl, rfl⟩ := h
    refine fin ⟨_, by unfold eRes; rw [hop, ho]; simp only [wdst_some hc.1, hz]; rfl, rfl, rfl⟩ (by unfold ePreB; rw [ho]; simp only [hz]; exact hc.2)
   ·simp at h
  ·simp at h
 case store t a x =>
  unfold kStore at h
  split at h
  ·rename_i id r' off ha
   rw [Option.bind_eq_some_iff] at h
   obtain ⟨en0, h1, h2⟩ := h
   rw [hF id] at h1
   unfold kStB at h2
   split at h2
   ·rename_i cs hob
    split at h2
    ·rename_i hc
     rw [plainK_eq hF] at hc
     simp only [Option.some.injEq, Prod.mk.injEq] at h2
     obtain ⟨rfl, rfl⟩ := h2
     refine fin ⟨_, by unfold eRes; rw [hop, ho]; simp only [ha, h1, hob]; rfl, rfl, rfl⟩ (by unfold ePreB; rw [ho]; simp only [ha, h1, hob]; exact hc)
    ·simp at h2
   ·simp at h2
  ·rename_i id r' k i j ha
   rw [Option.bind_eq_some_iff] at h
   obtain ⟨en0, h1, h2⟩ := h
   rw [hF id] at h1
   unfold kStR at h2
   split at h2
   ·rename_i et k' bs es hob
    split at h2
    ·rename_i c0 hc0
     split at h2
     ·rename_i hc
      rw [plainK_eq hF] at hc
      simp only [Option.some.injEq, Prod.mk.injEq] at h2
      obtain ⟨rfl, rfl⟩ := h2
      refine fin ⟨_, by unfold eRes; rw [hop, ho]; simp only [ha]; unfold eStoreRow; simp only [h1, hob, hc0]; rfl, rfl, rfl⟩ (by unfold ePreB; rw [ho]; simp only [ha, h1, hob]; exact hc)
     ·simp at h2
    ·simp at h2
   ·simp at h2
  ·simp at h
 case makeSlice t l c =>
  unfold kMake at h
  split at h
  ·rename_i k1 n k2 m hl hcc
   split at h
   ·rename_i i k bs et zs hd ht hte hz
    split at h
    ·rename_i hc
     simp only [Option.some.injEq, Prod.mk.injEq] at h
     obtain ⟨rfl, rfl⟩ := h
     refine fin ⟨_, by unfold eRes; rw [hop, ho]; simp only [wdst_some (show o.dst.isSome = true by rw [hd]; rfl)]; unfold eMake; simp only [ht, hte, hz, hl, hcc]; rfl, rfl, rfl⟩ (by unfold ePreB; rw [ho]; simp only [ht, hz, hl, hcc]; exact hc)
    ·simp at h
   ·simp at h
  ·simp at h
 case buildSlice t len parts =>
  unfold kBS0 at h
  split at h
  ·rename_i i0 k bs et x0 hd ht hte hb
   simp only [Option.some.injEq, Prod.mk.injEq] at h
   obtain ⟨rfl, rfl⟩ := h
   refine fin ⟨_, by unfold eRes; rw [hop, ho]; simp only [wdst_some (show o.dst.isSome = true by rw [hd]; rfl), ht, hte]; rfl, rfl, by simp [List.map_map, Function.comp_def]⟩ (by unfold ePreB; rw [ho]; exact kBSl_pre hF hb)
  ·simp at h
 case makeMap t rv =>
  unfold kMMap at h
  split at h
  ·rename_i i kt hd ht
   simp only [Option.some.injEq, Prod.mk.injEq] at h
   obtain ⟨rfl, rfl⟩ := h
   refine fin ⟨_, by unfold eRes; rw [hop, ho]; simp only [wdst_some (show o.dst.isSome = true by rw [hd]; rfl), ht]; rfl, rfl, rfl⟩ (by unfold ePreB; rw [ho])
  ·simp at h
 case mapUpdate t m k x =>
  unfold kUpd at h
  split at h
  ·rename_i id r' hm
   split at h
   ·rename_i en0 kt et h1 ht
    rw [hF id] at h1
    split at h
    ·rename_i ks vs hob
     split at h
     ·rename_i hc
      simp only [Option.some.injEq, Prod.mk.injEq] at h
      obtain ⟨rfl, rfl⟩ := h
      refine fin ⟨_, by unfold eRes; rw [hop, ho]; simp only [hm, ht, h1, hob]; rfl, rfl, rfl⟩ (by unfold ePreB; rw [ho]; simp only [hm, ht, h1, hob]; exact hc)
     ·simp at h
    ·simp at h
   ·simp at h
  ·simp at h
 case call c =>
  split at h
  ·rename_i b hcal
   unfold kBuiltin at h
   split at h
   ·unfold kApp at h
    split at h
    ·rename_i a b t t' hl hts
     split at h
     ·rename_i i k bs et hd ht hte
      unfold kApp2 at h
      rw [destOf1 hF, rowsN1 hF] at h
      split at h
      ·rename_i x hs
       split at h
       ·rename_i id es hde
        split at h
        ·rename_i hc
         simp only [Option.some.injEq, Prod.mk.injEq] at h
         obtain ⟨rfl, rfl⟩ := h
         refine fin ⟨_, by unfold eRes; rw [hop, ho]; simp only [hcal, wdst_some (show o.dst.isSome = true by rw [hd]; rfl), hl, hts]; unfold eAppend; simp only [ht, hte, hs, hde]; rfl, rfl, rfl⟩ (by unfold ePreB; rw [ho]; simp only [hcal, hl, hts]; unfold appB; simp only [ht, hte, hs, hde]; exact hc)
        ·simp at h
       ·simp at h
      ·rename_i hs
       split at h
       ·rename_i id es k2 es2 hde hro
        split at h
        ·rename_i hc
         simp only [Option.some.injEq, Prod.mk.injEq] at h
         obtain ⟨rfl, rfl⟩ := h
         refine fin ⟨_, by unfold eRes; rw [hop, ho]; simp only [hcal, wdst_some (show o.dst.isSome = true by rw [hd]; rfl), hl, hts]; unfold eAppend; simp only [ht, hte, hs, hde, hro]; rfl, rfl, rfl⟩ (by unfold ePreB; rw [ho]; simp only [hcal, hl, hts]; unfold appB; simp only [ht, hte, hs, hde, hro]; exact hc)
        ·simp at h
       ·simp at h
     ·simp at h
    ·simp at h
   ·unfold kClear at h
    split at h
    ·rename_i d0 t hl hts
     split at h
     ·rename_i k bs zs ht hz
      split at h
      ·rename_i id r'
       split at h
       ·rename_i en0 h1
        rw [hF id] at h1
        split at h
        ·rename_i et k' bs' es hob
         split at h
         ·rename_i hc
          simp only [Option.some.injEq, Prod.mk.injEq] at h
          obtain ⟨rfl, rfl⟩ := h
          refine fin ⟨_, by unfold eRes; rw [hop, ho]; simp only [hcal, hl, hts]; unfold eClear; simp only [ht, hz, h1, hob]; rfl, rfl, rfl⟩ (by unfold ePreB; rw [ho]; simp only [hcal, hl, hts]; unfold clearB; simp only [ht, hz, h1, hob]; exact hc)
         ·simp at h
        ·simp at h
       ·simp at h
      ·rename_i id r' k0 b0 i m
       split at h
       ·rename_i en0 h1
        rw [hF id] at h1
        split at h
        ·rename_i et k' bs' es hob
         split at h
         ·rename_i hc
          simp only [Option.some.injEq, Prod.mk.injEq] at h
          obtain ⟨rfl, rfl⟩ := h
          refine fin ⟨_, by unfold eRes; rw [hop, ho]; simp only [hcal, hl, hts]; unfold eClear; simp only [ht, hz, h1, hob]; rfl, rfl, rfl⟩ (by unfold ePreB; rw [ho]; simp only [hcal, hl, hts]; unfold clearB; simp only [ht, hz, h1, hob]; exact hc)
         ·simp at h
        ·simp at h
       ·simp at h
      ·simp at h
     ·simp at h
    ·simp at h
   ·simp at h
  ·simp at h
end
end Go.Dm
end
