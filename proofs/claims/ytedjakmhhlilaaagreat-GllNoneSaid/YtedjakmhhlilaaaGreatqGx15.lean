/- Parts of a proof, laid together: EvS. -/
import Derived.Test.YtedjakmhhlilaaaGreatqGx14
set_option linter.unusedSimpArgs false
set_option linter.unusedVariables false
set_option linter.unusedSectionVars false
section
namespace Go.Dm
variable [DMode]
section
variable (P : Program) (own : List Ent)
def tFun (t : TypeId) : Bool := match P.underlying t with
 | some (.func ..) => true
 | _ => false
def nilEq (t : TypeId) : DVal → DVal → Option Bool
 | .bx id r _, .nilp => if isCur own id r && tPtr P t then some false else none
 | .rx id r _ _ _, .nilp => if isCur own id r && tPtr P t then some false else none
 | .omp id r, .nilmp => if isCur own id r && tMp P t then some false else none
 | .osl id r, .nilsl => if tSl P t then (match findE own id with | some e => if e.r = r then (match e.obj with | .row _ _ _ (_ :: _) => some false | _ => none) else none | none => none) else none
 | .vw id r _ _ _ n, .nilsl => if isCur own id r && tSl P t && Nat.blt 0 n then some false else none
 | .fn _ _ _, .nilfn => if tFun P t then some false else none
 | .nilfn, .nilfn => if tFun P t then some true else none
 | _, _ => none
def capV : Callee → List DVal → List TypeId → Option DVal
 | .builtin .cap, [.nilsl], [t] => if tSl P t then some (.int .i64 0) else none
 | _, _, _ => none
def gAddr (t : TypeId) (g : Nat) (d : DVal) : Option DVal := match d, findE own g, tArr P t with
 | .int _ n, some e, some (len, k) => (match e.obj with
  | .glob g' _ => if g' = g ∧ 0 ≤ n ∧ n < len then some (arrV (.bx g e.r 0) k n) else none
  | _ => none)
 | _, _, _ => none
def isIfcT (t : TypeId) : Bool := match P.underlying t with
 | some (.interface _) => true
 | some _ => false
 | none => true
def taV (a : TypeId) (ok : Bool) (d : DVal) : Option DVal := match d with
 | .ifc t d => if ok = false ∧ t = a ∧ isIfcT P a = false then some d else none
 | _ => none
def xVal (e : Operand → DVal) : Op → Option DVal
 | .indexAddr t (.global g) i => gAddr P own t g (e i)
 | .binOp .eql t x y _ => (nilEq P own t (e x) (e y)).map .bool
 | .binOp .neq t x y _ => (nilEq P own t (e x) (e y)).map fun b => .bool (!b)
 | .slice t x l h (some m) => (match e x with
  | .osl id r => (match rowsOf own (.osl id r), tElem P t with
   | some (k, bs, es), some (k', _) => if k' = k ∧ (0 ≤ ixV e 0 l ∧ ixV e 0 l ≤ ixV e es.length h ∧ ixV e es.length h ≤ ixV e es.length (some m) ∧ ixV e es.length (some m) ≤ es.length ∧ h.isSome = true) then
    some (.vw id r k (if 0 < ixV e 0 l then bs else 0) (ixV e 0 l).toNat ((ixV e es.length h).toNat - (ixV e 0 l).toNat)) else none
   | _, _ => none)
  | _ => none)
 | .call c => capV P (c.callee) (c.args.toList.map e) (c.argTypes.toList)
 | .typeAssert x _ a ok => taV P a ok (e x)
 | _ => none
def NeuF (o : Oper) (e : Operand → DVal) (d : DVal) : Prop := (nPre P own e o.op ∧ d = nVal P own e o.op) ∨ xVal P own e o.op = some d
end
section
variable {P : Program} {B : Base} {s : DS} {a : Act} {w : World} {loc : Nat → Loc}
theorem xVal_congr {own : List Ent} {e e' : Operand → DVal} (op : Op) (h : ∀ x ∈ op.operands, e x = e' x) : xVal P own e op = xVal P own e' op := by
 cases op <;> try rfl
 case binOp bo t x y ty =>
  simp only [Op.operands] at h
  have h1 := h x (by simp)
  have h2 := h y (by simp)
  cases bo <;> simp only [xVal, h1, h2]
 case indexAddr t x i =>
  simp only [Op.operands] at h
  cases x <;> try rfl
  simp only [xVal, h i (by simp)]
 case typeAssert x xt a ok => simp only [xVal, h x (by simp [Op.operands])]
 case call c =>
  simp only [xVal]
  congr 1
  refine List.map_congr_left fun x hx => h x ?_
  simp only [Op.operands, Call.operands]
  cases c.callee <;> simp <;> first | exact .inr (by simpa using hx) | simpa using hx
 case slice t x l h' m =>
  cases m with
  | none => rfl
  | some m =>
   simp only [Op.operands] at h
   have hx := h x (by simp)
   have hi : ∀ (d : Int) (o : Option Operand), (o = l ∨ o = h' ∨ o = some m) → ixV e d o = ixV e' d o := by
    intro d o ho
    cases o with
    | none => rfl
    | some y =>
     have : e y = e' y := h y (by
      simp only [Array.mem_append]
      rcases ho with ho | ho | ho
      ·subst ho; simp
      ·subst ho; simp
      ·simp only [Option.some.injEq] at ho; subst ho; simp)
     simp only [ixV, this]
   have h1 : ∀ d, ixV e d l = ixV e' d l := fun d => hi d l (by simp)
   have h2 : ∀ d, ixV e d h' = ixV e' d h' := fun d => hi d h' (by simp)
   have h3 : ∀ d, ixV e d (some m) = ixV e' d (some m) := fun d => hi d (some m) (by simp)
   simp only [xVal, hx, h1, h2, h3]
theorem NeuF.congr {own : List Ent} {o : Oper} {e e' : Operand → DVal} {d : DVal} (h : ∀ x ∈ o.op.operands, e x = e' x) (hn : NeuF P own o e d) : NeuF P own o e' d := by
 obtain ⟨c1, c2⟩ := n_congr0 (P := P) (own := own) o.op h
 rcases hn with ⟨h1, h2⟩ | h1
 ·exact .inl ⟨c1.1 h1, by rw [← c2]; exact h2⟩
 ·exact .inr (by rw [← xVal_congr o.op h]; exact h1)
theorem gAddr_mx {own : List Ent} {t : TypeId} {g : Nat} {x d : DVal} (h : gAddr P own t g x = some d) : mx d ≤ mxE own := by
 unfold gAddr at h
 split at h
 ·rename_i k n e len kk he ht
  split at h
  ·split at h
   ·simp only [Option.some.injEq] at h
    subst h
    have := (mem_mxE (findE_mem he).1).1
    simp only [arrV, mx]
    omega
   ·simp at h
  ·simp at h
 ·simp at h
theorem xVal_mx {own : List Ent} {e : Operand → DVal} {op : Op} {d : DVal} {n : Nat} (h : xVal P own e op = some d) (ho : mxE own ≤ n) (hn : ∀ x ∈ op.operands, mx (e x) ≤ n) : mx d ≤ n := by
 unfold xVal at h
 split at h
 ·exact Nat.le_trans (gAddr_mx h) ho
 ·rw [Option.map_eq_some_iff] at h; obtain ⟨b, _, rfl⟩ := h; simp [mx]
 ·rw [Option.map_eq_some_iff] at h; obtain ⟨b, _, rfl⟩ := h; simp [mx]
 ·rename_i t x l h' m
  have hx := hn x (by simp [Op.operands])
  split at h
  ·rename_i id r hd
   rw [hd] at hx
   split at h
   ·split at h
    ·simp only [Option.some.injEq] at h; subst h
     simpa [mx] using hx
    ·simp at h
   ·simp at h
  ·simp at h
 ·unfold capV at h
  split at h
  ·split at h
   ·simp only [Option.some.injEq] at h; subst h; simp [mx]
   ·simp at h
  ·simp at h
 ·rename_i x xt a ok
  have hx := hn x (by simp [Op.operands])
  unfold taV at h
  split at h
  ·rename_i t d0 hd
   rw [hd] at hx
   split at h
   ·simp only [Option.some.injEq] at h; subst h
    simpa [mx] using hx
   ·simp at h
  ·simp at h
 ·simp at h
theorem dbin_fun {cur : Cur} {M : List Nat} {op : BinOp} {t : TypeId} {xo yo : Operand} {d : DVal} (u : Value) (b : Bool) (hu : (u = .nilFunc ∧ b = true) ∨ ((∃ f us cs, u = .func f us cs) ∧ b = false)) (hb : tFun P t = true) (hd : (match op with | .eql => some (DVal.bool b) | .neq => some (.bool (!b)) | _ => none) = some d) :
  ∃ r, (do eqGuard op t xo yo u .nilFunc; binOp op t u .nilFunc : Sem Value).run P w = .ok r w ∧ rd cur M w.heap d r := by
 obtain ⟨e1, e2, e3, ht⟩ : ∃ a b c, P.underlying t = some (.func a b c) := by
  unfold tFun at hb
  split at hb
  ·exact ⟨_, _, _, by assumption⟩
  ·simp at hb
 have he : (Op.equal t u .nilFunc).run P w = .ok b w := by
  have gen : ∀ d : Nat, (Op.equalIn (d + 1) t u .nilFunc).run P w = .ok b w := by
   intro d
   rcases hu with ⟨rfl, rfl⟩ | ⟨⟨f, us, cs, rfl⟩, rfl⟩ <;> simp [Op.equalIn, run_underlying ht]
  exact gen 9999
 cases op <;> simp only [Option.some.injEq, reduceCtorEq] at hd <;> subst hd
 ·have : binOp .eql t u .nilFunc = (do pure (.bool (← Op.equal t u .nilFunc))) := by rcases hu with ⟨rfl, rfl⟩ | ⟨⟨f, us, cs, rfl⟩, rfl⟩ <;> rfl
  rw [this]
  have g : (eqGuard .eql t xo yo u .nilFunc).run P w = .ok () w := by rcases hu with ⟨rfl, rfl⟩ | ⟨⟨f, us, cs, rfl⟩, rfl⟩ <;> rfl
  simp only [Sem.run_bind, g, Result.andThen_ok, he, Sem.run_pure]
  exact ⟨_, rfl, by simp [rd]⟩
 ·have : binOp .neq t u .nilFunc = (do pure (.bool (!(← Op.equal t u .nilFunc)))) := by rcases hu with ⟨rfl, rfl⟩ | ⟨⟨f, us, cs, rfl⟩, rfl⟩ <;> rfl
  rw [this]
  have g : (eqGuard .neq t xo yo u .nilFunc).run P w = .ok () w := by rcases hu with ⟨rfl, rfl⟩ | ⟨⟨f, us, cs, rfl⟩, rfl⟩ <;> rfl
  simp only [Sem.run_bind, g, Result.andThen_ok, he, Sem.run_pure]
  exact ⟨_, rfl, by simp [rd]⟩
theorem nilEq_run {op : BinOp} {t : TypeId} {xo yo : Operand} {x y : DVal} {u v : Value} {b : Bool} {d : DVal} {M0 : List Nat} (S : St s.own loc M0 w.heap) (hb : nilEq P s.own t x y = some b) (rx : Rds s loc M0 w x u) (ry : Rds s loc M0 w y v)
  (hd : (match op with | .eql => some (DVal.bool b) | .neq => some (.bool (!b)) | _ => none) = some d) :
  ∃ r, (do eqGuard op t xo yo u v; binOp op t u v : Sem Value).run P w = .ok r w ∧ rd (cu s loc) (hm s loc M0) w.heap d r := by
 have ptr : ∀ {ad : Addr}, u = .pointer (some ad) → v = .pointer none → tPtr P t = true → b = false → ∃ r, (do eqGuard op t xo yo u v; binOp op t u v : Sem Value).run P w = .ok r w ∧ rd (cu s loc) (hm s loc M0) w.heap d r := by
  rintro ad rfl rfl ht rfl
  have he := run_equal_ptr_nil (P := P) (w := w) ht (some ad)
  cases op <;> simp only [Option.some.injEq, reduceCtorEq] at hd <;> subst hd <;>
   simp only [Sem.run_bind, eqGuard_ptr, Result.andThen_ok, binOp_eql_ptr, binOp_neq_ptr, he, Sem.run_pure] <;> exact ⟨_, rfl, by simp [rd]⟩
 unfold nilEq at hb
 split at hb
 ·split at hb
  ·rename_i hc
   simp only [Bool.and_eq_true] at hc
   simp only [Option.some.injEq] at hb
   simp only [Rds, rd] at rx ry
   obtain ⟨b0, _, hv⟩ := rx _ (isCur_cur hc.1)
   exact ptr hv ry hc.2 hb.symm
  ·simp at hb
 ·split at hb
  ·rename_i hc
   simp only [Bool.and_eq_true] at hc
   simp only [Option.some.injEq] at hb
   simp only [Rds, rd] at rx ry
   obtain ⟨b0, _, hv⟩ := rx _ (isCur_cur hc.1)
   exact ptr hv ry hc.2 hb.symm
  ·simp at hb
 ·split at hb
  ·rename_i hc
   simp only [Bool.and_eq_true] at hc
   simp only [Option.some.injEq] at hb
   subst hb
   simp only [Rds, rd] at rx ry
   obtain ⟨b0, _, rfl⟩ := rx _ (isCur_cur hc.1)
   subst ry
   exact dbin_mp (some b0) hc.2 (by cases op <;> simp_all)
  ·simp at hb
 ·rename_i id r
  split at hb
  ·rename_i ht
   split at hb
   ·rename_i e he
    split at hb
    ·rename_i her
     split at hb
     ·rename_i et k bs e0 es hob
      simp only [Option.some.injEq] at hb
      subst hb
      obtain ⟨hmem, hid⟩ := findE_mem he
      have hcur : curOf s.own loc id r = some (loc id) := by unfold curOf; rw [he]; simp [her]
      simp only [Rds, rd] at rx ry
      have hu := rx _ hcur
      have hk := S.ok e hmem
      rw [hob, hid] at hk
      obtain ⟨_, ⟨hn, _⟩ | ⟨b0, arr, cap, h1, h2, _⟩⟩ := hk
      ·simp at hn
      ·rw [h2] at hu
       subst hu; subst ry
       exact dbin_sl (some _) _ cap ht (by cases op <;> simp_all)
     ·simp at hb
    ·simp at hb
   ·simp at hb
  ·simp at hb
 ·split at hb
  ·rename_i hc
   simp only [Bool.and_eq_true] at hc
   simp only [Option.some.injEq] at hb
   subst hb
   simp only [Rds, rd] at rx ry
   obtain ⟨a, cap, rfl, h1, h2, h3, h4, _⟩ := rx _ (isCur_cur hc.1.1)
   obtain ⟨b0, _, rfl⟩ := h4 (Nat.le_of_ble_eq_true hc.2)
   subst ry
   exact dbin_sl (some _) _ cap hc.1.2 (by cases op <;> simp_all)
  ·simp at hb
 ·split at hb
  ·rename_i hc
   simp only [Option.some.injEq] at hb
   subst hb
   simp only [Rds, rd] at rx ry
   obtain ⟨us', cs', rfl, _⟩ := rx
   subst ry
   exact dbin_fun _ false (.inr ⟨⟨_, _, _, rfl⟩, rfl⟩) hc hd
  ·simp at hb
 ·split at hb
  ·rename_i hc
   simp only [Option.some.injEq] at hb
   subst hb
   simp only [Rds, rd] at rx ry
   subst rx
   subst ry
   exact dbin_fun _ true (.inl ⟨rfl, rfl⟩) hc hd
  ·simp at hb
 ·simp at hb
theorem x_sound {o : Oper} {e : Operand → DVal} {ρ : Operand → Value} {d : DVal} {M0 : List Nat} (hg : ∀ g, ρ (.global g) = .pointer (some ⟨g, 0, none⟩)) (S : St s.own loc M0 w.heap) (hρ : ∀ x ∈ o.op.operands, Rds s loc M0 w (e x) (ρ x)) (hx : xVal P s.own e o.op = some d) :
  ∃ v, (execOp ρ o).run P w = .ok (.value v) w ∧ rd (cu s loc) (hm s loc M0) w.heap d v := by
 obtain ⟨dst, op, type, pos, after, guard⟩ := o
 simp only at hx hρ ⊢
 have fin : ∀ (x : Sem Value), (∃ r, x.run P w = .ok r w ∧ rd (cu s loc) (hm s loc M0) w.heap d r) → ∃ v, (do pure (.value (← x)) : Sem Next).run P w = .ok (.value v) w ∧ rd (cu s loc) (hm s loc M0) w.heap d v := by
  rintro x ⟨v, h1, h3⟩
  exact ⟨v, by rw [Sem.run_bind, h1]; rfl, h3⟩
 cases op <;> try (simp [xVal] at hx; done)
 case indexAddr t x i =>
  cases x <;> simp only [xVal, reduceCtorEq] at hx
  rename_i g
  have ri := hρ i (by simp [Op.operands])
  unfold gAddr at hx
  split at hx
  ·rename_i kk n e0 len k hei he ht
   rw [hei] at ri
   simp only [Rds, rd] at ri
   split at hx
   ·rename_i g' vs hob
    split at hx
    ·rename_i hc
     obtain ⟨rfl, h0, h1⟩ := hc
     simp only [Option.some.injEq] at hx
     subst hx
     obtain ⟨hmem, hid⟩ := findE_mem he
     have hk := S.ok e0 hmem
     rw [hob, hid] at hk
     have hcur : curOf s.own loc g' e0.r = some (loc g') := by unfold curOf; rw [he]; simp
     unfold tArr at ht
     split at ht
     ·rename_i ln el hu
      cases hi : P.info? el with
      | none => rw [hi] at ht; simp at ht
      | some inf =>
       rw [hi] at ht
       simp only [Option.map_some, Option.some.injEq, Prod.mk.injEq] at ht
       obtain ⟨rfl, rfl⟩ := ht
       have hcells : tCells P el = some inf.size := by unfold tCells; rw [hi]; rfl
       simp only [execOp]
       refine fin _ ⟨.pointer (some ⟨g', 0 + n.toNat * inf.size, none⟩), ?_, ?_⟩
       ·rw [hg, ri.1]
        simp [Instr.indexAt, asIntOf, run_underlying hu, Instr.sureAddr, h0, h1, run_sizeOf' hcells, add_lit]
       ·simp only [rd, arrV]
        intro l hl
        have hl' : curOf s.own loc g' e0.r = some l := hl
        rw [hcur] at hl'
        simp only [Option.some.injEq] at hl'
        subst hl'
        exact ⟨g', hk.1, rfl⟩
     ·simp at ht
    ·simp at hx
   ·simp at hx
  ·simp at hx
 case typeAssert x xt a ok =>
  have rx := hρ x (by simp [Op.operands])
  simp only [xVal] at hx
  unfold taV at hx
  split at hx
  ·rename_i t d0 hd
   rw [hd] at rx
   simp only [Rds, rd] at rx
   obtain ⟨u, hu, hr⟩ := rx
   split at hx
   ·rename_i hc
    obtain ⟨rfl, rfl, h3⟩ := hc
    simp only [Option.some.injEq] at hx
    subst hx
    simp only [execOp]
    refine fin _ ⟨u, ?_, hr⟩
    rw [hu]
    unfold isIfcT at h3
    cases hq : P.underlying t with
    | none => simp [hq] at h3
    | some q => cases q <;> simp [hq] at h3 <;> simp [Instr.typeAssert, run_underlying hq]
   ·simp at hx
  ·simp at hx
 case binOp bo t x y ty =>
  have r1 := hρ x (by simp [Op.operands])
  have r2 := hρ y (by simp [Op.operands])
  simp only [execOp]
  refine fin _ ?_
  cases bo <;> simp only [xVal, reduceCtorEq] at hx
  ·rw [Option.map_eq_some_iff] at hx
   obtain ⟨b, hb, rfl⟩ := hx
   exact nilEq_run S hb r1 r2 (by simp)
  ·rw [Option.map_eq_some_iff] at hx
   obtain ⟨b, hb, rfl⟩ := hx
   exact nilEq_run S hb r1 r2 (by simp)
 case call c =>
  obtain ⟨cal, ⟨al⟩, ⟨tl⟩⟩ := c
  simp only [xVal] at hx
  obtain ⟨t, ht, rfl, ha, rfl, hd⟩ : ∃ t, tSl P t = true ∧ cal = .builtin .cap ∧ al.map e = [.nilsl] ∧ tl = [t] ∧ d = .int .i64 0 := by
   generalize al.map e = l at hx
   unfold capV at hx
   split at hx
   ·split at hx
    ·rename_i ht
     simp only [Option.some.injEq] at hx
     exact ⟨_, ht, rfl, rfl, rfl, hx.symm⟩
    ·simp at hx
   ·simp at hx
  subst hd
  obtain ⟨xa, rfl⟩ : ∃ xa, al = [xa] := by
   have hl : al.length = 1 := by simpa using congrArg List.length ha
   cases al with
   | nil => simp at hl
   | cons xa al => cases al with
    | nil => exact ⟨_, rfl⟩
    | cons _ _ => simp at hl
  simp only [List.map_cons, List.map_nil, List.cons.injEq, and_true] at ha
  have ra := hρ xa (by simp [Op.operands, Call.operands])
  rw [ha] at ra
  simp only [Rds, rd] at ra
  obtain ⟨et, hu⟩ : ∃ et, P.underlying t = some (.slice et) := by
   unfold tSl at ht
   split at ht
   ·exact ⟨_, by assumption⟩
   ·simp at ht
  refine ⟨goInt 0, ?_, by simp [rd, goInt, inR]⟩
  simp [execOp, resolve, invoke, builtin, Builtin.cap_, run_underlying hu, ra]
 case slice t x l h m =>
  cases m with
  | none => simp [xVal] at hx
  | some m =>
   classical
   have hρ' : ∀ y, Rds s loc M0 w ((fun y => if y ∈ (Op.slice t x l h (some m)).operands then e y else .any) y) (ρ y) := fun y => by
    by_cases hy : y ∈ (Op.slice t x l h (some m)).operands
    ·simp only [if_pos hy]; exact hρ y hy
    ·simp only [if_neg hy, Rds, rd]
   rw [xVal_congr (e' := fun y => if y ∈ (Op.slice t x l h (some m)).operands then e y else .any) _ (fun y hy => by simp only [if_pos hy])] at hx
   generalize (fun y => if y ∈ (Op.slice t x l h (some m)).operands then e y else DVal.any) = e at hx hρ'
   simp only [xVal] at hx
   split at hx
   ·rename_i id r hd
    split at hx
    ·rename_i k bs es k' bs' hro htE
     split at hx
     ·rename_i hc
      obtain ⟨rfl, hp⟩ := hc
      simp only [Option.some.injEq] at hx
      subst hx
      have hx := hρ' x
      rw [hd] at hx
      obtain ⟨e', i, hu, hi, hsz, _, _⟩ := tElem_some htE
      obtain ⟨e0, et, he0, her, hob⟩ := rowsOf_ent rfl hro
      obtain ⟨hcur, a, cap, hh, g1, g2, g3⟩ := row_form S he0 her hob
      simp only [Rds, rd] at hx
      have hv := hx _ hcur
      rw [hh] at hv
      obtain ⟨mm, hr, k1, k2⟩ := run_sliceBounds (P := P) hρ' (b := true) (l := l) (h := h) (m := some m) ⟨hp.1, hp.2.1, hp.2.2.1, hp.2.2.2.1, fun _ => hp.2.2.2.2⟩ g1
      obtain ⟨p0, p1, p2, p3, _⟩ := hp
      simp only [Option.map_some] at hr
      simp only [execOp]
      refine fin _ ?_
      rw [hv]
      refine ⟨.slice (if mm = (ixV e 0 l).toNat then a else a.map (·.add ((ixV e 0 l).toNat * k'))) ((ixV e es.length h).toNat - (ixV e 0 l).toNat) (mm - (ixV e 0 l).toNat), ?_, ?_⟩
      ·simp [Instr.sliceAt, Instr.slice, run_underlying hu, hr, sizeOf, typeInfo, hi, hsz]
      ·simp only [rd]
       intro lc hl
       have hl' : curOf s.own loc id r = some lc := hl
       rw [hcur] at hl'
       simp only [Option.some.injEq] at hl'
       subst hl'
       refine ⟨_, _, rfl, by omega, by omega, fun hn => ?_, fun hn => ?_, fun hz => .inl (if_neg (by omega))⟩
       ·rcases g3 with ⟨_, _, _, hc0⟩ | ⟨b, hb1, rfl⟩
        ·omega
        ·split at hn <;> simp at hn
       ·rcases g3 with ⟨rfl, _⟩ | ⟨b, hb1, rfl⟩
        ·simp only [List.length_nil] at p1 p2 p3 hn; omega
        ·refine ⟨b, hb1, ?_⟩
         rw [if_neg (by omega)]
         simp [add_lit]
     ·simp at hx
    ·simp at hx
   ·simp at hx
theorem xVal_defer {own : List Ent} {e : Operand → DVal} {op : Op} {d : DVal} (h : xVal P own e op = some d) : ∀ c, op ≠ .defer c := by
 rintro c rfl
 simp [xVal] at h
theorem neuF_wp {o : Oper} {e : Operand → DVal} {d d' : DVal} {next : Act → World → Prop} {Q : Exit → Act → World → Prop} (R : Rel B s a w loc) (hd : dstOK B.nt o.dst = true) (he : ∀ x ∈ o.op.operands, Rds s loc B.M0 w (e x) (a.eval x)) (hp : NeuF P s.own o e d')
  (hdv : ∀ (w' : World) (v : Value), rd (cu s loc) (hm s loc B.M0) w'.heap d' v → rd (cu s loc) (hm s loc B.M0) w'.heap d v) (hn : ∀ a' w' loc', Rel B ⟨putS s.slots o.dst d, s.own⟩ a' w' loc' → next a' w') : o.wpIn (wd B.ro) 0 P a w next Q := by
 rcases hp with ⟨hp, rfl⟩ | hp
 ·exact neu_wp (K := fun s' => s' = ⟨putS s.slots o.dst d, s.own⟩) R hd he hp rfl hdv fun s' a' w' loc' hs R' => by subst hs; exact hn a' w' loc' R'
 ·obtain ⟨v, h1, h3⟩ := x_sound (o := o) (fun _ => rfl) R.st he hp
  refine ⟨fun _ _ => trivial, ?_⟩
  rw [Oper.semAt_eq _ _ _ (xVal_defer hp), h1, Oper.uponIn_value]
  exact hn _ _ loc (R.put (dst_lt hd) (Upd.refl _ _) (hdv _ _ h3))
def OpOKF (P : Program) (ops : Array Oper) (o : Oper) (s : DS) (d : DVal) : Prop :=
 match o.guard with
  | none => NeuF P s.own o (ev s.slots) d
  | some (j, want) => gOK (gSlot ops s j) = true ∧ okOp (gB (gSlot ops s j) want) (ev s.slots) o.op ∧ ∃ d', d = .sel (gB (gSlot ops s j) want) d' ∧ (gB (gSlot ops s j) want = true → NeuF P s.own o (stripE s.slots) d')
theorem OpOKF.congr {ops : Array Oper} {o : Oper} {s s' : DS} {d : DVal} (hown : s.own = s'.own) (hev : ∀ x ∈ o.op.operands, ev s.slots x = ev s'.slots x) (hg : ∀ j want, o.guard = some (j, want) → gSlot ops s j = gSlot ops s' j) (h : OpOKF P ops o s d) : OpOKF P ops o s' d := by
 unfold OpOKF at h ⊢
 cases hgd : o.guard with
 | none =>
  rw [hgd] at h
  simp only at h ⊢
  rw [← hown]
  exact h.congr hev
 | some jw =>
  obtain ⟨j, want⟩ := jw
  rw [hgd] at h
  simp only at h ⊢
  rw [hg j want hgd] at h
  obtain ⟨h1, h2, d', h3, h4⟩ := h
  refine ⟨h1, okOp_congr hev h2, d', h3, fun hb => ?_⟩
  rw [← hown]
  exact (h4 hb).congr fun x hx => by unfold stripE; rw [hev x hx]
theorem xVal_okL {own : List Ent} {e e' : Operand → DVal} {op : Op} {d : DVal} {c : Bool} (h : xVal P own e' op = some d) (hok : okOp c e op) : okL c e op.operands.toList := by
 unfold okOp at hok
 split at hok
 ·simp [xVal] at h
 ·exact hok
theorem OpOKF.mxB {ops : Array Oper} {o : Oper} {d : DVal} {n : Nat} (h : OpOKF P ops o s d) (ho : mxE s.own ≤ n) (hl : mxS s.slots ≤ n) : mx d ≤ n := by
 have evm : ∀ x : Operand, mx (ev s.slots x) ≤ n := fun x => Nat.le_trans (ev_mx _ x) hl
 unfold OpOKF at h
 split at h
 ·rcases h with ⟨_, rfl⟩ | h
  ·exact n_mx ho o.op fun x _ => evm x
  ·exact xVal_mx h ho fun x _ => evm x
 ·obtain ⟨_, h2, d', rfl, h3⟩ := h
  simp only [mx]
  split
  ·rename_i hb
   rw [hb] at h2
   rcases h3 hb with ⟨hp, rfl⟩ | h
   ·exact okOp_mx h2 hp ho fun x _ => evm x
   ·have hsel := okL_sel (xVal_okL h h2)
    exact xVal_mx h ho fun x hx => by
     unfold stripE
     rw [strip_mx (hsel x (by simpa using hx))]
     exact evm x
  ·omega
theorem opF_wp {ops : Array Oper} {i : Nat} {o : Oper} {d : DVal} {C : Act → World → Prop} {Qx : Exit → Act → World → Prop} (R : Rel B s a w loc) (ho : ops[i]? = some o) (hd : dstOK B.nt o.dst = true) (h : OpOKF P ops o s d)
  (hn : ∀ a' w' loc', Rel B ⟨putS s.slots o.dst d, s.own⟩ a' w' loc' → C a' w') : wpOpIn (wd B.ro) 0 P ops Qx i C a w := by
 unfold wpOpIn
 rw [ho]
 simp only
 unfold OpOKF at h
 cases hgd : o.guard with
 | none =>
  have hw : Region.wanted o (yielded ops a.tmps) = true := by simp [Region.wanted, hgd]
  rw [if_pos hw]
  rw [hgd] at h
  exact neuF_wp R hd (fun x _ => R.ev x) h (fun _ _ h => h) hn
 | some jw =>
  obtain ⟨j, want⟩ := jw
  rw [hgd] at h
  simp only at h
  obtain ⟨g1, g2, d', rfl, g3⟩ := h
  have hgo := guard_ok (want := want) R g1
  have hw : Region.wanted o (yielded ops a.tmps) = gB (gSlot ops s j) want := by simp only [Region.wanted, hgd]; exact hgo
  rw [hw]
  split
  ·rename_i hb
   rw [hb] at g2
   have hdv : ∀ (w' : World) (v : Value), rd (cu s loc) (hm s loc B.M0) w'.heap d' v → rd (cu s loc) (hm s loc B.M0) w'.heap (.sel (gB (gSlot ops s j) want) d') v := by
    intro w' v h
    rw [hb]
    simp only [rd]
    exact ⟨fun _ => h, fun h' => by simp at h'⟩
   rcases g3 hb with ⟨hp, rfl⟩ | hp
   ·obtain ⟨e', q1, q2, q3⟩ := okOp_ok (fun x => R.ev x) g2 hp
    exact neuF_wp R hd q1 (.inl ⟨q2, rfl⟩) (fun w' v h => hdv w' v (q3 _ _ _ _ h)) hn
   ·exact neuF_wp R hd (fun x hx => okL_ok (fun x => R.ev x) _ (xVal_okL hp g2) x (by simpa using hx)) (.inr hp) hdv hn
  ·rename_i hb
   have hb : gB (gSlot ops s j) want = false := by simpa using hb
   refine ⟨fun _ _ => trivial, ?_⟩
   rw [hb] at hn
   exact hn _ _ loc (R.put (dst_lt hd) (Upd.refl _ _) (by simp [rd]))
def SpecAtF (P : Program) (f : Fn) (args : List DVal) (own : List Ent) (r : Nat) (d : DVal) (own' : List Ent) (r' : Nat) : Prop :=
 FEnters P f ∧ (mxE own ≤ r → mxL args ≤ r → r ≤ r' ∧ mx d ≤ r' ∧ mxE own' ≤ r') ∧
 ∀ (M : List Nat) (w : World) (loc : Nat → Loc) (vs : Array Value), mxE own ≤ r → mxL args ≤ r → St own loc M w.heap → rdV (curOf own loc) (hotOf own loc ++ M) w.heap args vs.toList →
  FCalls P f vs w fun v w' => ∃ loc', St own' loc' M w'.heap ∧ Upd (hotOf own loc) w w' ∧ (∀ b ∈ hotOf own' loc', b ∈ hotOf own loc ∨ w.heap.size ≤ b) ∧
   (∀ e ∈ own', e.r < r → curOf own loc e.id e.r = some (loc' e.id)) ∧ rd (curOf own' loc') (hotOf own' loc' ++ M) w'.heap d v
theorem callee_mx {e : Operand → DVal} {c : Call} {g : FuncId} {args : List DVal} {n : Nat} (hc : callee e c = some (g, args)) (h : ∀ x ∈ c.operands, mx (e x) ≤ n) : mxL args ≤ n := by
 obtain ⟨cal, ars, ats⟩ := c
 unfold callee at hc
 cases cal with
 | value f =>
  simp only at hc
  split at hc
  ·rename_i g' us cs hf
   simp only [Option.some.injEq, Prod.mk.injEq] at hc
   obtain ⟨rfl, rfl⟩ := hc
   have hx := h f (by simp [Call.operands])
   rw [hf] at hx
   simp only [mx] at hx
   have key : ∀ l : List Operand, (∀ x ∈ l, mx (e x) ≤ n) → mxL (l.map e) ≤ n := by
    intro l
    induction l with
    | nil => intro _; simp [mxL]
    | cons x l ih =>
     intro hl
     simp only [List.map_cons, mxL]
     have := hl x List.mem_cons_self
     have := ih fun y hy => hl y (List.mem_cons_of_mem _ hy)
     omega
   have app : ∀ l l' : List DVal, mxL (l ++ l') = max (mxL l) (mxL l') := by
    intro l l'
    induction l with
    | nil => simp [mxL]
    | cons d l ih => simp only [List.cons_append, mxL, ih]; omega
   rw [app, app]
   have := key ars.toList fun x hx => h x (by simp [Call.operands]; right; simpa using hx)
   omega
  ·simp at hc
 | invoke r m => simp at hc
 | builtin b => simp at hc
theorem specF_wp {o : Oper} {c : Call} {g : FuncId} {args : List DVal} {r r' : Nat} {d : DVal} {own' : List Ent} {ed : Operand → DVal} {next : Act → World → Prop} {Q : Exit → Act → World → Prop} (R : Rel B s a w loc) (hr : lim B s ≤ r) (hd : dstOK B.nt o.dst = true) (ho : o.op = .call c)
  (hed : ∀ x ∈ o.op.operands, Rds s loc B.M0 w (ed x) (a.eval x)) (hmd : ∀ x ∈ o.op.operands, mx (ed x) ≤ r) (hc : callee ed c = some (g, args)) (hS : SpecAtF P (.func g) args s.own r d own' r')
  (hn : ∀ a' w' loc', Rel B ⟨putS s.slots o.dst d, own'⟩ a' w' loc' → next a' w') : o.wpIn (wd B.ro) 0 P a w next Q := by
 have hlim := hr
 unfold lim at hlim
 obtain ⟨hE, _, hS⟩ := hS
 obtain ⟨vs, h1, h2⟩ := run_call (P := P) (ρ := a.eval) (M0 := B.M0) ho (fun x hx => hed x (by rw [ho]; exact hx)) hc hE
 refine ⟨fun _ _ => trivial, ?_⟩
 rw [Oper.semAt_eq _ _ _ (fun c' hc' => by rw [ho] at hc'; cases hc'), h1, Oper.uponIn_enter]
 refine ⟨fun h => by simp [wd] at h, calls_wd B.ro _ ?_⟩
 refine ((hS B.M0 w loc vs (by omega) (callee_mx hc fun x hx => hmd x (by rw [ho]; exact hx)) R.st h2).2).mono ?_
 rintro e w' ⟨v, rfl, loc', S', hu, hnew, hver, hrd⟩
 exact hn _ _ loc' (R.step (n := r) (by omega) (by omega) (dst_lt hd) S' hu hnew hver hrd)
def isEffF (o : Oper) : Bool := match o.op with
 | .box _ _ => true
 | .alloc _ => true
 | .store _ _ _ => true
 | .makeMap _ _ => true
 | .mapUpdate _ _ _ _ => true
 | .mapEntry _ _ _ => true
 | .buildSlice _ len _ => len == 0
 | .entryStore _ _ _ _ => true
 | .makeSlice _ _ _ => true
 | .call c => match c.callee with
  | .builtin .append => true
  | .builtin .clear => true
  | .builtin .copy => true
  | .builtin .delete => true
  | .builtin _ => false
  | _ => true
 | _ => false
def SemF (P : Program) (o : Oper) (ed : Operand → DVal) (own : List Ent) (r : Nat) (d : DVal) (own' : List Ent) (r' : Nat) : Prop :=
 (mxE own ≤ r → (∀ y ∈ o.op.operands, mx (ed y) ≤ r) → r ≤ r' ∧ mx d ≤ r' ∧ mxE own' ≤ r') ∧
 ∀ (B : Base) (s : DS) (a : Act) (w : World) (loc : Nat → Loc) (next : Act → World → Prop) (Q : Exit → Act → World → Prop), Rel B s a w loc → s.own = own → lim B s ≤ r → dstOK B.nt o.dst = true →
  (∀ x ∈ o.op.operands, Rds s loc B.M0 w (ed x) (a.eval x)) → (∀ x ∈ o.op.operands, mx (ed x) ≤ mxS s.slots) → (∀ a' w' loc', Rel B ⟨putS s.slots o.dst d, own'⟩ a' w' loc' → next a' w') → o.wpIn (wd B.ro) 0 P a w next Q
theorem SemF.congr {P : Program} {o : Oper} {e1 e2 : Operand → DVal} {own : List Ent} {r r' : Nat} {d : DVal} {own' : List Ent} (h : ∀ x ∈ o.op.operands, e1 x = e2 x) (hx : SemF P o e1 own r d own' r') : SemF P o e2 own r d own' r' :=
 ⟨fun h1 h2 => hx.1 h1 fun y hy => by rw [h y hy]; exact h2 y hy, fun B s a w loc next Q R h1 h2 h3 h4 h5 h6 => hx.2 B s a w loc next Q R h1 h2 h3 (fun x hx => by rw [h x hx]; exact h4 x hx) (fun x hx => by rw [h x hx]; exact h5 x hx) h6⟩
def OutF (P : Program) (o : Oper) (ed : Operand → DVal) (own : List Ent) (r : Nat) (d : DVal) (own' : List Ent) (r' : Nat) : Prop :=
 (∃ x, eRes P (wdst o r) ed own r = some x ∧ x.pre ∧ d = x.d ∧ own' = x.own ∧ r' = r + 1) ∨ (∃ c g args, o.op = .call c ∧ callee ed c = some (g, args) ∧ SpecAtF P (.func g) args own r d own' r') ∨
 SemF P o ed own r d own' r'
theorem outF_wp {o : Oper} {r r' : Nat} {d : DVal} {own' : List Ent} {ed : Operand → DVal} {next : Act → World → Prop} {Q : Exit → Act → World → Prop} (R : Rel B s a w loc) (hr : lim B s ≤ r) (hd : dstOK B.nt o.dst = true) (hed : ∀ x ∈ o.op.operands, Rds s loc B.M0 w (ed x) (a.eval x)) (hmd : ∀ x ∈ o.op.operands, mx (ed x) ≤ mxS s.slots)
  (h : OutF P o ed s.own r d own' r') (hn : ∀ a' w' loc', Rel B ⟨putS s.slots o.dst d, own'⟩ a' w' loc' → next a' w') : o.wpIn (wd B.ro) 0 P a w next Q := by
 rcases h with ⟨x, hx, hp, rfl, rfl, rfl⟩ | ⟨c, g, args, hop, hc, hS⟩ | hS
 ·exact e_wpF R hr hd hed hmd hx hp hn
 ·exact specF_wp R hr hd hop hed (fun x hx => by have := hmd x hx; unfold lim at hr; omega) hc hS hn
 ·exact hS.2 B s a w loc next Q R rfl hr hd hed hmd hn
theorem outF_mx {o : Oper} {ed : Operand → DVal} {own : List Ent} {r n r' : Nat} {d : DVal} {own' : List Ent} (h : OutF P o ed own r d own' r') (ho : mxE own ≤ r) (hl : ∀ y ∈ o.op.operands, mx (ed y) ≤ r) : r ≤ r' ∧ mx d ≤ r' ∧ mxE own' ≤ r' := by
 rcases h with ⟨x, hx, hp, rfl, rfl, rfl⟩ | ⟨c, g, args, hop, hc, hS⟩ | hS
 ·have := eRes_mx (n := r) hx hp ho hl (Nat.le_refl _)
  exact ⟨by omega, this.1, this.2⟩
 ·exact hS.2.1 ho (callee_mx hc fun x hx => hl x (by rw [hop]; exact hx))
 ·exact hS.1 ho hl
theorem OutF.congr {o : Oper} {e1 e2 : Operand → DVal} {own : List Ent} {r r' : Nat} {d : DVal} {own' : List Ent} (h : ∀ x ∈ o.op.operands, e1 x = e2 x) (hx : OutF P o e1 own r d own' r') : OutF P o e2 own r d own' r' := by
 rcases hx with ⟨x, h1, h2⟩ | ⟨c, g, args, h1, h2, h3⟩ | hS
 ·exact .inl ⟨x, by rw [← eRes_congr (o := wdst o r) h]; exact h1, h2⟩
 ·exact .inr (.inl ⟨c, g, args, h1, by rw [← callee_congr (fun x hx => h x (by rw [h1]; exact hx))]; exact h2, h3⟩)
 ·exact .inr (.inr (hS.congr h))
def EffOKF (P : Program) (ops : Array Oper) (o : Oper) (s : DS) (d : DVal) (own' : List Ent) (r r' : Nat) : Prop := match o.guard with
 | none => OutF P o (ev s.slots) s.own r d own' r'
 | some (j, want) => gOK (gSlot ops s j) = true ∧ okOp (gB (gSlot ops s j) want) (ev s.slots) o.op ∧
  ((gB (gSlot ops s j) want = true ∧ ∃ d0, d = .sel true d0 ∧ OutF P o (stripE s.slots) s.own r d0 own' r') ∨ (gB (gSlot ops s j) want = false ∧ d = .sel false .any ∧ own' = s.own ∧ r' = r))
theorem EffOKF.congr {ops : Array Oper} {o : Oper} {s s' : DS} {d : DVal} {own' : List Ent} {r r' : Nat} (hown : s.own = s'.own) (hev : ∀ x ∈ o.op.operands, ev s.slots x = ev s'.slots x) (hg : ∀ j want, o.guard = some (j, want) → gSlot ops s j = gSlot ops s' j) (h : EffOKF P ops o s d own' r r') : EffOKF P ops o s' d own' r r' := by
 unfold EffOKF at h ⊢
 cases hgd : o.guard with
 | none =>
  rw [hgd] at h
  simp only at h ⊢
  rw [← hown]
  exact h.congr hev
 | some jw =>
  obtain ⟨j, want⟩ := jw
  rw [hgd] at h
  simp only at h ⊢
  rw [hg j want hgd] at h
  obtain ⟨h1, h2, h3⟩ := h
  refine ⟨h1, okOp_congr hev h2, ?_⟩
  rcases h3 with ⟨h3, d0, h4, h5⟩ | ⟨h3, h4, h5, h6⟩
  ·exact .inl ⟨h3, d0, h4, by rw [← hown]; exact h5.congr fun x hx => by unfold stripE; rw [hev x hx]⟩
  ·exact .inr ⟨h3, h4, by rw [h5, hown], h6⟩
theorem effF_okL {o : Oper} {c : Bool} {e : Operand → DVal} (he : isEffF o = true) (h : okOp c e o.op) : okL c e o.op.operands.toList := by
 unfold okOp at h
 split at h
 ·rename_i hop; unfold isEffF at he; rw [hop] at he; simp at he
 ·exact h
theorem EffOKF.mxB {ops : Array Oper} {o : Oper} {d : DVal} {own' : List Ent} {r r' : Nat} (he : isEffF o = true) (h : EffOKF P ops o s d own' r r') (ho : mxE s.own ≤ r) (hl : mxS s.slots ≤ r) : r ≤ r' ∧ mx d ≤ r' ∧ mxE own' ≤ r' := by
 unfold EffOKF at h
 split at h
 ·exact outF_mx (n := r) h ho (fun y _ => Nat.le_trans (ev_mx _ y) hl)
 ·obtain ⟨_, h2, ⟨h3, d0, rfl, h⟩ | ⟨_, rfl, rfl, rfl⟩⟩ := h
  ·rw [h3] at h2
   have := outF_mx (n := r) h ho (fun y hy => by
    unfold stripE
    rw [strip_mx (okL_sel (effF_okL he h2) y (by simpa using hy))]
    exact Nat.le_trans (ev_mx _ y) hl)
   refine ⟨this.1, ?_, this.2.2⟩
   simp only [mx]; simpa using this.2.1
  ·exact ⟨Nat.le_refl _, by simp [mx], ho⟩
theorem effF_wp {ops : Array Oper} {i : Nat} {o : Oper} {d : DVal} {own' : List Ent} {r r' : Nat} {C : Act → World → Prop} {Qx : Exit → Act → World → Prop} (R : Rel B s a w loc) (hr : lim B s ≤ r) (ho : ops[i]? = some o) (hd : dstOK B.nt o.dst = true) (he : isEffF o = true) (h : EffOKF P ops o s d own' r r')
  (hn : ∀ a' w' loc', Rel B ⟨putS s.slots o.dst d, own'⟩ a' w' loc' → C a' w') : wpOpIn (wd B.ro) 0 P ops Qx i C a w := by
 unfold wpOpIn
 rw [ho]
 simp only
 unfold EffOKF at h
 cases hgd : o.guard with
 | none =>
  rw [hgd] at h
  have hw : Region.wanted o (yielded ops a.tmps) = true := by simp [Region.wanted, hgd]
  rw [if_pos hw]
  exact outF_wp R hr hd (fun x _ => R.ev x) (fun x _ => ev_mx _ x) h hn
 | some jw =>
  obtain ⟨j, want⟩ := jw
  rw [hgd] at h
  simp only at h
  obtain ⟨g1, g2, g3⟩ := h
  have hgo := guard_ok (want := want) R g1
  have hw : Region.wanted o (yielded ops a.tmps) = gB (gSlot ops s j) want := by simp only [Region.wanted, hgd]; exact hgo
  rw [hw]
  rcases g3 with ⟨hb, d0, rfl, hx'⟩ | ⟨hb, rfl, rfl, rfl⟩
  ·rw [hb] at g2 ⊢
   rw [if_pos rfl]
   have hsel := okL_sel (effF_okL he g2)
   exact outF_wp R hr hd (fun x hx => okL_ok (fun x => R.ev x) _ (effF_okL he g2) x (by simpa using hx)) (fun x hx => by
    unfold stripE
    rw [strip_mx (hsel x (by simpa using hx))]
    exact ev_mx _ x) hx' fun a' w' loc' R' => hn a' w' loc' R'.selTrue
  ·rw [hb]
   rw [if_neg (by simp)]
   exact ⟨fun _ _ => trivial, hn _ _ loc (R.put (dst_lt hd) (Upd.refl _ _) (by simp [rd]))⟩
end
end Go.Dm
end
