/- Parts of a proof, laid together: EnE, EnF, EnG, EnH. -/
import Derived.MapKept
import Derived.Sort.LoopGhostIn
import Derived.RangeFuncCalls
import Derived.RangeFuncLeaves
import Derived.OrdersIn
import Derived.Orders
import Derived.Test.YtffdjbdokgbibaaGreatqCO1
section
/- The data machine, second make, part E: the neutral operations: what each asks ('nPre') and yields ('nVal'); that it does. -/


set_option linter.unusedSimpArgs false
set_option linter.unusedVariables false
namespace Go.Dm

def cellsD : DVal → List DVal
  | .agg cs => cs
  | d => [d]

/-- cells with others laid over, from 'off' on -/
def splice (cells : List DVal) (off : Nat) (cs : List DVal) : List DVal := cells.take off ++ cs ++ cells.drop (off + cs.length)

def fillD (place : Nat → Option (Nat × Nat)) (cells : List DVal) : List (Nat × DVal) → Option (List DVal)
  | [] => some cells
  | (i, d) :: rest => match place i with
    | none => none
    | some (off, size) => if (cellsD d).length = size ∧ off + size ≤ cells.length then fillD place (splice cells off (cellsD d)) rest else none

def isCur (own : List Ent) (id r : Nat) : Bool := match findE own id with | some e => e.r == r | none => false

/-- a datum that is one cell -/
def oneO (own : List Ent) : DVal → Bool
  | .any | .undef | .sel _ _ | .tup _ | .agg _ => false
  | .bx id r _ => isCur own id r
  | .rx id r _ _ _ => isCur own id r
  | .omp id r => isCur own id r
  | .osl id r => (rowsOf own (.osl id r)).isSome
  | .vw id r _ _ _ _ => isCur own id r
  | .pk id r => match findE own id with | some e => e.r == r && (match e.obj with | .abs _ => true | _ => false) | none => false
  | _ => true
/-- a datum that is one cell, or an aggregate of such -/
def plainD (own : List Ent) (d : DVal) : Bool := (cellsD d).all (oneO own)

/-- one of two, by a test -/
def pickV (t : Bool) : DVal → DVal → DVal
  | .bool p, .bool q => .bool (if t then p else q)
  | .bool p, .sel _ (.bool q) => .bool (if t then p else q)
  | .sel _ (.bool p), .bool q => .bool (if t then p else q)
  | a, b => if t then a else b
def pickOK (t : Bool) : DVal → DVal → Prop
  | .bool _, .sel c (.bool _) => t = false → c = true
  | .sel c (.bool _), .bool _ => t = true → c = true
  | _, _ => True

/-- the address of an element -/
def idxVal (own : List Ent) (d : DVal) (n : Int) : DVal :=
  match d with
  | .sl _ _ es => .ref (es.getD n.toNat [])
  | .osl id r => match rowsOf own (.osl id r) with | some (k, _, _) => .rx id r k n.toNat 0 | none => .any
  | .vw id r k _ i _ => .rx id r k (i + n.toNat) 0
  | _ => .any

/-- a map's keys and values -/
def mapOf (own : List Ent) : DVal → Option (List DVal × List DVal)
  | .mp ks vs => some (ks, vs)
  | .nilmp => some ([], [])
  | .omp id r => match findE own id with
    | some e => if e.r = r then (match e.obj with | .map ks vs => some (ks, vs) | _ => none) else none
    | none => none
  | _ => none

/-- a slice expression's bound -/
def ixV (e : Operand → DVal) (dflt : Int) : Option Operand → Int
  | none => dflt
  | some x => match e x with | .int _ n => n | _ => -1
def sliceP (e : Operand → DVal) (len : Nat) (l h m : Option Operand) : Prop :=
  0 ≤ ixV e 0 l ∧ ixV e 0 l ≤ ixV e len h ∧ ixV e len h ≤ ixV e len m ∧ ixV e len m ≤ len ∧ (m.isSome = true → h.isSome = true)

section
variable (P : Program) (own : List Ent) (e : Operand → DVal)

def bPre : Builtin → List DVal → List TypeId → Prop
  | .len, [d], [t] => match d with
    | .str _ => tStr P t = true
    | .nilsl => (tElem P t).isSome = true
    | .mp ks _ => (tMap P t).isSome = true ∧ (ks.length : Int) ≤ 9223372036854775807
    | .nilmp => (tMap P t).isSome = true
    | .omp id r => (tMap P t).isSome = true ∧ match mapOf own (.omp id r) with | some (ks, _) => (ks.length : Int) ≤ 9223372036854775807 | none => False
    | d => (rowsOf own d).isSome = true ∧ (tElem P t).isSome = true
  | .min, [x, y], _ => match x, y with | .int k _, .int k' _ => k = k' | _, _ => False
  | .max, [x, y], _ => match x, y with | .int k _, .int k' _ => k = k' | _, _ => False
  | _, _, _ => False

def bVal : Builtin → List DVal → DVal
  | .len, [d] => match d with
    | .str s => .int .i64 s.size
    | .nilsl => .int .i64 0
    | .mp ks _ => .int .i64 ks.length
    | .nilmp => .int .i64 0
    | .omp id r => match mapOf own (.omp id r) with | some (ks, _) => .int .i64 ks.length | none => .any
    | d => match rowsOf own d with | some (_, _, es) => .int .i64 es.length | none => .any
  | .min, [x, y] => match x, y with | .int k a, .int _ b => .int k (if b < a then b else a) | _, _ => .any
  | .max, [x, y] => match x, y with | .int k a, .int _ b => .int k (if a < b then b else a) | _, _ => .any
  | _, _ => .any

def tPlace (t : TypeId) (i : Nat) : Option (Nat × Nat) := (tField P t i).map fun x => (x.1, x.2.1)

def tParts (t : TypeId) : Bool := match tStruct P t with | some fs => fs.toList.all fun f => (tCells P f.type).isSome | none => false
def tElemZ (t : TypeId) : Bool := match P.underlying t with | some (.slice e) => (tZero P e).isSome | _ => false

def nPre : Op → Prop
  | .move _ => True
  | .assign _ => True
  | .pick c a b => match e c with | .bool t => pickOK t (e a) (e b) | _ => False
  | .fieldAddr t x f => match tField P t f, e x with
    | some (_, n, _), .ref _ => n ≠ 0
    | some (_, n, _), .bx id r _ => n ≠ 0 ∧ isCur own id r = true
    | some (_, n, _), .rx id r _ _ _ => n ≠ 0 ∧ isCur own id r = true
    | _, _ => False
  | .load t a => match tAgg P t, tCells P t, cellsAt own (e a) with
    | some true, some n, some cs => n ≤ cs.length
    | some false, _, some cs => 0 < cs.length
    | _, _, _ => False
  | .indexAddr t x i => match e i, tElem P t, rowsOf own (e x) with
    | .int _ n, some (k, _), some (k', _, es) => k = k' ∧ 0 ≤ n ∧ n < es.length
    | _, _, _ => False
  | .index t x i => match e x, e i with
    | .str s, .int _ n => tStr P t = true ∧ 0 ≤ n ∧ n < s.size
    | _, _ => False
  | .field t x f => match tField P t f, e x with
    | some (off, n, b), .agg cs => off + n ≤ cs.length ∧ (b = false → n = 1)
    | _, _ => False
  | .binOp op t x y _ => (dbin P op t (e x) (e y)).isSome = true
  | .unOp op _ x => match op, e x with
    | .not, .bool _ => True
    | .neg, .int _ _ => True
    | _, _ => False
  | .convert src dst x => (P.underlying src).isSome = true ∧ match e x with
    | .int _ _ => (tInt P dst).isSome = true
    | .str _ => tStr P dst = true
    | _ => False
  | .extract x i => match e x with
    | .tup vs => i < vs.length
    | _ => False
  | .makeFunc _ _ _ => True
  | .makeInterface t _ => (match P.underlying t with | some (.interface _) => False | some _ => True | none => False)
  | .nilCheck x => match e x with
    | .ref _ => True
    | .bx id r _ => isCur own id r = true
    | .rx id r _ _ _ => isCur own id r = true
    | .fn (.func _) _ _ => True
    | _ => False
  | .box _ x => plainD own (e x) = true
  | .build t parts => match tZero P t with
    | some z => (fillD (tPlace P t) z (parts.toList.map fun p => (p.1, e p.2))).isSome = true ∧ (parts.toList.all fun p => plainD own (e p.2)) = true ∧ tParts P t = true
    | none => False
  | .buildSlice t len parts => match tElem P t with
    | some (k, bs) => parts.toList.map (·.1) = List.range len ∧ len * k ≤ 16777216 ∧ len * bs ≤ 150000000000000 ∧ len ≤ 16777216 ∧ 0 < k ∧ (parts.toList.all fun p => plainD own (e p.2) && (cellsD (e p.2)).length == k) = true ∧ tElemZ P t = true
    | none => False
  | .call c => match c.callee with
    | .builtin b => bPre P own b (c.args.toList.map e) c.argTypes.toList
    | _ => False
  | .slice t x l h m => match e x with
    | .sl k _ es => tElem P t = some (k, (tElem P t).elim 0 (·.2)) ∧ sliceP e es.length l h m
    | .nilsl => (tElem P t).isSome = true ∧ sliceP e 0 l h m
    | .osl id r => m = none ∧ match rowsOf own (.osl id r) with | some (k, _, es) => tElem P t = some (k, (tElem P t).elim 0 (·.2)) ∧ sliceP e es.length l h none | none => False
    | .vw id r k bs i n => m = none ∧ (rowsOf own (.vw id r k bs i n)).isSome = true ∧ tElem P t = some (k, (tElem P t).elim 0 (·.2)) ∧ sliceP e n l h none
    | .str str => tStr P t = true ∧ m = none ∧ sliceP e str.size l h none
    | _ => False
  | .lookup t x i _ => match tMap P t, mapOf own (e x) with
    | some (kt, et), some (ks, _) => keyOK P kt (e i) = true ∧ ks.all (keyOK P kt) = true ∧ (tZeroD P et).isSome = true
    | _, _ => False
  | _ => False

def nVal : Op → DVal
  | .move x => e x
  | .assign x => e x
  | .pick c a b => match e c with | .bool t => pickV t (e a) (e b) | _ => .any
  | .fieldAddr t x f => match tField P t f, e x with
    | some (off, _, _), .ref cs => .ref (cs.drop off)
    | some (off, _, _), .bx id r o => .bx id r (o + off)
    | some (off, _, _), .rx id r k i j => .rx id r k i (j + off)
    | _, _ => .any
  | .load t a => match tAgg P t, tCells P t, cellsAt own (e a) with
    | some true, some n, some cs => .agg (cs.take n)
    | some false, _, some cs => cs.headD .any
    | _, _, _ => .any
  | .indexAddr _ x i => match e i with
    | .int _ n => idxVal own (e x) n
    | _ => .any
  | .index _ x i => match e x, e i with
    | .str s, .int _ n => .int .u8 (s.data.toList.getD n.toNat 0).toNat
    | _, _ => .any
  | .field t x f => match tField P t f, e x with
    | some (off, n, b), .agg cs => if b then .agg ((cs.drop off).take n) else (cs.drop off).headD .any
    | _, _ => .any
  | .binOp op t x y _ => (dbin P op t (e x) (e y)).getD .any
  | .unOp op _ x => match op, e x with
    | .not, .bool b => .bool (!b)
    | .neg, .int k n => .int k (k.wrap (0 - n))
    | _, _ => .any
  | .convert _ dst x => match e x with
    | .int _ n => match tInt P dst with | some k => .int k (k.wrap n) | none => .any
    | d => d
  | .extract x i => match e x with
    | .tup vs => vs.getD i .any
    | _ => .any
  | .makeFunc f us cs => .fn f (us.toList.map e) (cs.toList.map e)
  | .makeInterface t x => .ifc t (e x)
  | .nilCheck x => e x
  | .box _ x => .ref (cellsD (e x))
  | .build t parts => match tZero P t with
    | some z => .agg ((fillD (tPlace P t) z (parts.toList.map fun p => (p.1, e p.2))).getD [])
    | none => .any
  | .buildSlice t _ parts => match tElem P t with
    | some (k, bs) => .sl k bs (parts.toList.map fun p => cellsD (e p.2))
    | none => .any
  | .call c => match c.callee with
    | .builtin b => bVal own b (c.args.toList.map e)
    | _ => .any
  | .slice _ x l h _ => match e x with
    | .sl k bs es => .sl k bs ((es.drop (ixV e 0 l).toNat).take ((ixV e es.length h).toNat - (ixV e 0 l).toNat))
    | .nilsl => .nilsl
    | .osl id r => match rowsOf own (.osl id r) with | some (k, bs, es) => .vw id r k bs (ixV e 0 l).toNat ((ixV e es.length h).toNat - (ixV e 0 l).toNat) | none => .any
    | .vw id r k bs i n => .vw id r k bs (i + (ixV e 0 l).toNat) ((ixV e n h).toNat - (ixV e 0 l).toNat)
    | .str str => .str (str.extract (ixV e 0 l).toNat (ixV e str.size h).toNat)
    | _ => .any
  | .lookup t x i ok => match tMap P t, mapOf own (e x) with
    | some (_, et), some (ks, vs) =>
      let r := lookI ks (e i)
      let v := match r with | some j => vs.getD j .any | none => (tZeroD P et).getD .any
      if ok then .tup [v, .bool r.isSome] else v
    | _, _ => .any
  | _ => .any
end

section
variable {P : Program} {s : DS} {loc : Nat → Loc} {M0 : List Nat} {w : World} {ρ : Operand → Value}

abbrev Rds (s : DS) (loc : Nat → Loc) (M0 : List Nat) (w : World) (d : DVal) (v : Value) : Prop := rd (cu s loc) (hm s loc M0) w.heap d v

/-- An operation's run: a value, in a world that has only grown. -/
def Yields (P : Program) (s : DS) (loc : Nat → Loc) (M0 : List Nat) (w : World) (x : Sem Value) (d : DVal) : Prop :=
  ∃ v w', x.run P w = .ok v w' ∧ Upd [] w w' ∧ rd (cu s loc) (hm s loc M0) w'.heap d v

theorem Yields.same {x : Sem Value} {d : DVal} {v : Value} (hr : x.run P w = .ok v w) (hd : Rds s loc M0 w d v) : Yields P s loc M0 w x d := ⟨v, w, hr, Upd.refl _ _, hd⟩

theorem y_fieldAt {t f off n : Nat} {b : Bool} {d : DVal} {v : Value} (hf : tField P t f = some (off, n, b)) (hn : n ≠ 0) (hd : Rds s loc M0 w d v)
    (hk : (∃ cs, d = .ref cs) ∨ (∃ id r o, d = .bx id r o ∧ (curOf s.own loc id r).isSome = true) ∨ (∃ id r k i j, d = .rx id r k i j ∧ (curOf s.own loc id r).isSome = true)) :
    Yields P s loc M0 w (Instr.fieldAt t v f) (match d with | .ref cs => .ref (cs.drop off) | .bx id r o => .bx id r (o + off) | .rx id r k i j => .rx id r k i (j + off) | _ => .any) := by
  unfold tField at hf
  split at hf
  · rename_i fs hu
    split at hf
    · rename_i fl hfl
      split at hf
      · rename_i n' b' hn' hb'
        simp only [Option.some.injEq, Prod.mk.injEq] at hf
        obtain ⟨rfl, rfl, rfl⟩ := hf
        have main : ∀ a : Addr, a.spot = none → (Instr.fieldAt t (.pointer (some a)) f).run P w = .ok (.pointer (some ⟨a.block, a.off + fl.offset, none⟩)) w := by
          intro a ha
          obtain ⟨ab, ao, asp⟩ := a
          simp only at ha; subst ha
          simp [Instr.fieldAt, run_underlying hu, hfl, Instr.sureAddr, fieldPlace, run_sizeOf' hn', hn, add_lit]
        rcases hk with ⟨cs, rfl⟩ | ⟨id, r, o, rfl, hc⟩ | ⟨id, r, k, i, j, rfl, hc⟩
        · simp only [Rds, rd] at hd
          obtain ⟨bb, oo, arr, ty, fz, rfl, h2, h3, h4⟩ := hd
          refine Yields.same (main _ rfl) ?_
          simp only [Rds, rd]
          exact ⟨bb, oo + fl.offset, arr, ty, fz, rfl, h2, h3, rdC_drop _ _ _ _ h4⟩
        · obtain ⟨l, hl⟩ := Option.isSome_iff_exists.1 hc
          simp only [Rds, rd] at hd
          obtain ⟨bb, hb1, rfl⟩ := hd l hl
          refine Yields.same (main _ rfl) ?_
          simp only [Rds, rd]
          intro l' hl'
          have : l' = l := by have h' : curOf s.own loc id r = some l' := hl'; rw [hl] at h'; exact (Option.some.inj h').symm
          subst this
          exact ⟨bb, hb1, rfl⟩
        · obtain ⟨l, hl⟩ := Option.isSome_iff_exists.1 hc
          simp only [Rds, rd] at hd
          obtain ⟨bb, hb1, rfl⟩ := hd l hl
          refine Yields.same (main _ rfl) ?_
          simp only [Rds, rd]
          intro l' hl'
          have : l' = l := by have h' : curOf s.own loc id r = some l' := hl'; rw [hl] at h'; exact (Option.some.inj h').symm
          subst this
          exact ⟨bb, hb1, by simp [Nat.add_assoc]⟩
      · simp at hf
    · simp at hf
  · simp at hf

theorem load_same (S : St s.own loc M0 w.heap) {t : TypeId} {d : DVal} {v : Value} {cs : List DVal} {b : Bool} (hb : tAgg P t = some b) (hd : Rds s loc M0 w d v) (hc : cellsAt s.own d = some cs)
    (hn : b = true → ∃ n, tCells P t = some n ∧ n ≤ cs.length) (h0 : b = false → 0 < cs.length) :
    ∃ ad u, v = .pointer (some ad) ∧ (loadVar t ad).run P w = .ok u w ∧ Rds s loc M0 w (match b with | true => .agg (cs.take ((tCells P t).getD 0)) | false => cs.headD .any) u := by
  obtain ⟨bb, off, arr, ty, fz, rfl, h2, h3⟩ := cellsAt_ok S hd hc
  cases b with
  | true =>
    obtain ⟨n, hn, hle⟩ := hn rfl
    obtain ⟨vs, g1, g2, g3⟩ := rdC_vals _ _ _ (rdC_take n cs arr off h3)
    have hlen : vs.length = n := by rw [g1]; simp; omega
    have hl := run_loadCells_list (P := P) w ⟨bb, off, none⟩ vs (fun j u hj => by
      rw [add_lit]
      simp only [World.cell?, h2]
      exact (g3 j u hj).1)
    rw [hlen] at hl
    refine ⟨_, .agg vs.toArray, rfl, ?_, ?_⟩
    · simp [loadVar, run_isAgg hb, run_sizeOf' hn, hl]
    · simp only [hn, Option.getD_some, Rds, rd]
      exact ⟨vs.toArray, rfl, g2⟩
  | false =>
    match cs, h0 rfl, h3 with
    | d0 :: cs, _, h3 =>
      simp only [rdC] at h3
      obtain ⟨⟨u, k1, k2, k3⟩, _⟩ := h3
      refine ⟨_, u, rfl, ?_, by simpa [Rds] using k3⟩
      simp [loadVar, run_isAgg hb, run_load, World.cell?, h2, k1]

theorem y_load (S : St s.own loc M0 w.heap) {t : TypeId} {d : DVal} {v : Value} {cs : List DVal} {b : Bool} (hb : tAgg P t = some b) (hd : Rds s loc M0 w d v) (hc : cellsAt s.own d = some cs)
    (hn : b = true → ∃ n, tCells P t = some n ∧ n ≤ cs.length) (h0 : b = false → 0 < cs.length) :
    Yields P s loc M0 w (Instr.loadAt t v) (match b with | true => .agg (cs.take ((tCells P t).getD 0)) | false => cs.headD .any) := by
  obtain ⟨ad, u, rfl, h1, h2⟩ := load_same S hb hd hc hn h0
  exact Yields.same (v := u) (by simp [Instr.loadAt, Instr.sureAddr, h1]) h2

theorem tElem_some {t k bs : Nat} (h : tElem P t = some (k, bs)) : ∃ e i, P.underlying t = some (.slice e) ∧ P.info? e = some i ∧ i.size = k ∧ i.bytes = bs ∧ tCells P e = some k := by
  unfold tElem at h
  split at h
  · rename_i e hu
    cases hi : P.info? e with
    | none => simp [hi] at h
    | some i =>
      simp only [hi, Option.map_some, Option.some.injEq, Prod.mk.injEq] at h
      exact ⟨e, i, hu, hi, h.1, h.2, by simp [tCells, hi, h.1]⟩
  · simp at h

theorem y_indexAt (S : St s.own loc M0 w.heap) {t : TypeId} {d : DVal} {v : Value} {ik : IntKind} {n : Int} {k bs bs' : Nat} {es : List (List DVal)} (ht : tElem P t = some (k, bs)) (hd : Rds s loc M0 w d v)
    (hr : rowsOf s.own d = some (k, bs', es)) (h0 : 0 ≤ n) (h1 : n < es.length) :
    Yields P s loc M0 w (Instr.indexAt t v (.int ik n)) (idxVal s.own d n) := by
  obtain ⟨e, i, hu, hi, hsz, _, hcells⟩ := tElem_some ht
  have run : ∀ (a : Addr) (len cap : Nat), n < len → (Instr.indexAt t (.slice (some a) len cap) (.int ik n)).run P w = .ok (.pointer (some (a.add (n.toNat * k)))) w := by
    intro a len cap hlt
    simp [Instr.indexAt, asIntOf, run_underlying hu, h0, hlt, run_sizeOf' hcells]
  have hne : es ≠ [] := by intro h; subst h; simp at h1; omega
  cases d with
  | sl k0 b0 es0 =>
    simp only [rowsOf, Option.some.injEq, Prod.mk.injEq] at hr
    obtain ⟨rfl, rfl, rfl⟩ := hr
    simp only [Rds, rd] at hd
    obtain ⟨a, cap, rfl, g2, g3, g4, g5⟩ := hd
    rcases g5 with g5 | ⟨bb, off, arr, ty, fz, rfl, q1, q2, q3⟩
    · exact absurd g5.1 hne
    · refine Yields.same (run _ _ _ h1) ?_
      rw [add_lit]
      simp only [idxVal, Rds, rd]
      have hlt : n.toNat < es0.length := by omega
      have hat := rdR_at _ _ _ _ n.toNat (es0[n.toNat]) q3 (List.getElem?_eq_getElem hlt)
      refine ⟨bb, off + n.toNat * k0, arr, ty, fz, rfl, q1, q2, ?_⟩
      rw [List.getD_eq_getElem?_getD, List.getElem?_eq_getElem hlt]
      exact hat.2
  | osl id r =>
    have hr' := hr
    unfold rowsOf at hr
    simp only at hr
    split at hr
    · rename_i e0 he0
      split at hr
      · rename_i her
        split at hr
        · rename_i et0 k0 b0 es0 hobj
          simp only [Option.some.injEq, Prod.mk.injEq] at hr
          obtain ⟨rfl, rfl, rfl⟩ := hr
          obtain ⟨hm', hid⟩ := findE_mem he0
          have hk := S.ok e0 hm'
          rw [hobj] at hk
          obtain ⟨_, hk⟩ := hk
          have hcur : curOf s.own loc id r = some (loc id) := by unfold curOf; rw [he0]; simp [her]
          simp only [Rds, rd] at hd
          have hv := hd (loc id) hcur
          rw [← hid] at hv
          rcases hk with ⟨rfl, _⟩ | ⟨b, arr, cap, p1, p2, p3, p4, p5, p6, p7⟩
          · exact absurd rfl hne
          · rw [p2] at hv
            subst hv
            refine Yields.same (run _ _ _ h1) ?_
            rw [add_lit]
            simp only [idxVal, hr', Rds, rd]
            intro l hl
            have hl' : curOf s.own loc id r = some l := hl
            rw [hcur] at hl'
            simp only [Option.some.injEq] at hl'
            subst hl'
            exact ⟨b, by rw [← hid]; exact p1, by simp⟩
        · simp at hr
      · simp at hr
    · simp at hr
  | vw id r kk bb i0 n0 =>
    unfold rowsOf at hr
    simp only at hr
    split at hr
    · rename_i e0 he0
      split at hr
      · rename_i her
        split at hr
        · rename_i et0 k0 b0 es0 hobj
          split at hr
          · rename_i hb
            obtain ⟨rfl, rfl, hb⟩ := hb
            simp only [Option.some.injEq, Prod.mk.injEq] at hr
            obtain ⟨rfl, rfl, rfl⟩ := hr
            have hcur : curOf s.own loc id r = some (loc id) := by unfold curOf; rw [he0]; simp [her]
            simp only [Rds, rd] at hd
            obtain ⟨a, cap, rfl, g1, g2, _, g3, _⟩ := hd (loc id) hcur
            have hlt : n < (n0 : Int) := by simp at h1; omega
            obtain ⟨b, hb1, rfl⟩ := g3 (by omega)
            refine Yields.same (run _ _ _ hlt) ?_
            rw [add_lit]
            simp only [idxVal, Rds, rd]
            intro l hl
            have hl' : curOf s.own loc id r = some l := hl
            rw [hcur] at hl'
            simp only [Option.some.injEq] at hl'
            subst hl'
            exact ⟨b, hb1, by simp [Nat.add_mul]⟩
          · simp at hr
        · simp at hr
      · simp at hr
    · simp at hr
  | _ => simp [rowsOf] at hr

theorem y_field {t f off n : Nat} {b : Bool} {cs : List DVal} {v : Value} (hf : tField P t f = some (off, n, b)) (hd : Rds s loc M0 w (.agg cs) v) (hl : off + n ≤ cs.length) (h1 : b = false → n = 1) :
    Yields P s loc M0 w (Instr.field t v f) (if b then .agg ((cs.drop off).take n) else (cs.drop off).headD .any) := by
  unfold tField at hf
  split at hf
  rotate_left
  · simp at hf
  rename_i fs hu
  split at hf
  rotate_left
  · simp at hf
  rename_i fl hfl
  split at hf
  rotate_left
  · simp at hf
  rename_i n' b' hn' hb'
  simp only [Option.some.injEq, Prod.mk.injEq] at hf
  obtain ⟨rfl, rfl, rfl⟩ := hf
  simp only [Rds, rd] at hd
  obtain ⟨us, rfl, hus⟩ := hd
  have hlen := rdV_length _ _ hus
  have hp := run_part (P := P) (w := w) (us := us) (o := fl.offset) hb' hn' h1 (by simp at hlen; omega)
  have hrd := rdV_take n' _ _ (rdV_drop fl.offset _ _ hus)
  refine Yields.same (v := valOf b' ((us.toList.drop fl.offset).take n')) ?_ ?_
  · simp [Instr.field, run_underlying hu, hfl, asAgg, hp]
  · cases b' with
    | true => simp only [valOf, if_true, Rds, rd]; exact ⟨_, rfl, hrd⟩
    | false =>
      have := h1 rfl
      subst this
      simp only [valOf, Bool.false_eq_true, if_false, Rds]
      have hlt : fl.offset < cs.length := by omega
      rw [List.drop_eq_getElem_cons hlt] at hrd ⊢
      simp only [List.take_succ_cons, List.take_zero, rdV] at hrd
      obtain ⟨v, r, he, hv, rfl⟩ := hrd
      rw [he]
      simpa [List.getElem?_eq_getElem hlt] using hv

theorem y_newRow {cs : List DVal} {us : List Value} {ty : TypeId} (hus : rdV (cu s loc) (hm s loc M0) w.heap cs us) (hone : ∀ u ∈ us, u.oneCell' = true) (S : St s.own loc M0 w.heap) :
    Upd [] w (w.alloc (.cells us.toArray ty)) ∧ w.heap.size ∉ hm s loc M0 ∧ (w.alloc (.cells us.toArray ty)).heap[w.heap.size]? = some (.cells us.toArray ty (0, 0)) ∧
      rdC (cu s loc) (hm s loc M0) (w.alloc (.cells us.toArray ty)).heap cs us.toArray 0 := by
  have hu := Upd.alloc [] w (.cells us.toArray ty)
  have hnew : (w.alloc (.cells us.toArray ty)).heap[w.heap.size]? = some (.cells us.toArray ty (0, 0)) := heap_alloc_new w _
  refine ⟨hu, fun hm' => by have := S.lt _ hm'; omega, hnew, ?_⟩
  have W : Weak (cu s loc) (cu s loc) (hm s loc M0) (hm s loc M0) w.heap (w.alloc (.cells us.toArray ty)).heap (mxL cs) :=
    weak_step hu.nil (fun b hb => .inl hb) (fun e' he' _ => curOf_self S.nd he')
  have hus' := rdV_weak W cs us (Nat.le_refl _) hus
  have key : ∀ (H : Array Obj) (cs : List DVal) (us pre : List Value), rdV (cu s loc) (hm s loc M0) H cs us → (∀ u ∈ us, u.oneCell' = true) → rdC (cu s loc) (hm s loc M0) H cs (pre ++ us).toArray pre.length := by
    intro H cs
    induction cs with
    | nil => intros; simp [rdC]
    | cons d ds ih =>
      intro us pre hr ho
      simp only [rdV] at hr
      obtain ⟨v, r, rfl, h1, h2⟩ := hr
      simp only [rdC]
      refine ⟨⟨v, by simp, ho v List.mem_cons_self, h1⟩, ?_⟩
      have := ih r (pre ++ [v]) h2 (fun u hu => ho u (List.mem_cons_of_mem _ hu))
      simpa using this
  simpa using key _ cs us [] hus' hone

theorem isCur_cur {id r : Nat} (hc : isCur s.own id r = true) : curOf s.own loc id r = some (loc id) := by
  unfold isCur at hc
  unfold curOf
  split at hc
  · rename_i e he
    rw [he]
    have : e.r = r := by simpa using hc
    simp [this]
  · simp at hc

theorem oneO_ok (S : St s.own loc M0 w.heap) {d : DVal} {v : Value} (ho : oneO s.own d = true) (hd : Rds s loc M0 w d v) : v.oneCell' = true ∧ v.cells = #[v] := by
  cases d <;> simp only [oneO, Bool.false_eq_true] at ho <;> simp only [Rds, rd] at hd
  case bool => subst hd; exact ⟨rfl, rfl⟩
  case int => obtain ⟨rfl, _⟩ := hd; exact ⟨rfl, rfl⟩
  case str => obtain ⟨rfl, _⟩ := hd; exact ⟨rfl, rfl⟩
  case nilp => subst hd; exact ⟨rfl, rfl⟩
  case ref => obtain ⟨_, _, _, _, _, rfl, _⟩ := hd; exact ⟨rfl, rfl⟩
  case bx id r o => obtain ⟨b, _, rfl⟩ := hd _ (isCur_cur ho); exact ⟨rfl, rfl⟩
  case rx id r k i j => obtain ⟨b, _, rfl⟩ := hd _ (isCur_cur ho); exact ⟨rfl, rfl⟩
  case nilsl => subst hd; exact ⟨rfl, rfl⟩
  case esl => obtain ⟨_, _, rfl, _⟩ := hd; exact ⟨rfl, rfl⟩
  case sl => obtain ⟨_, _, rfl, _⟩ := hd; exact ⟨rfl, rfl⟩
  case osl id r =>
    obtain ⟨x, hx⟩ := Option.isSome_iff_exists.1 ho
    obtain ⟨a, cap, rfl, _⟩ := rowsOf_ok (k := x.1) (bs := x.2.1) (es := x.2.2) (p := .osl id r) S (by simp only [rd]; exact hd) hx
    exact ⟨rfl, rfl⟩
  case vw id r k bs i n => obtain ⟨_, _, rfl, _⟩ := hd _ (isCur_cur ho); exact ⟨rfl, rfl⟩
  case nilmp => subst hd; exact ⟨rfl, rfl⟩
  case omp id r => obtain ⟨b, _, rfl⟩ := hd _ (isCur_cur ho); exact ⟨rfl, rfl⟩
  case nilfn => subst hd; exact ⟨rfl, rfl⟩
  case fn => obtain ⟨_, _, rfl, _⟩ := hd; exact ⟨rfl, rfl⟩
  case nilifc => subst hd; exact ⟨rfl, rfl⟩
  case ifc => obtain ⟨_, rfl, _⟩ := hd; exact ⟨rfl, rfl⟩
  case mp => obtain ⟨_, _, _, rfl, _⟩ := hd; exact ⟨rfl, rfl⟩
  case pk id r =>
    split at ho
    · rename_i e he
      simp only [Bool.and_eq_true, beq_iff_eq] at ho
      obtain ⟨h1, h2⟩ := ho
      have hv := hd (loc id) (by show curOf _ _ _ _ = _; unfold curOf; rw [he]; simp [h1])
      obtain ⟨hm', hid⟩ := findE_mem he
      have hk := S.ok e hm'
      split at h2
      · rename_i A hob
        rw [hob] at hk
        rw [hv, ← hid]
        exact A.one _ _ _ _ hk
      · simp at h2
    · simp at ho

theorem oneO_all (S : St s.own loc M0 w.heap) : ∀ (ds : List DVal) (vs : List Value), ds.all (oneO s.own) = true → rdV (cu s loc) (hm s loc M0) w.heap ds vs → ∀ v ∈ vs, v.oneCell' = true
  | [], vs, _, hr => by simp only [rdV] at hr; subst hr; simp
  | d :: ds, vs, ha, hr => by
    simp only [rdV] at hr
    obtain ⟨v, r, rfl, h1, h2⟩ := hr
    simp only [List.all_cons, Bool.and_eq_true] at ha
    intro u hu
    rcases List.mem_cons.1 hu with rfl | hu
    · exact (oneO_ok S ha.1 h1).1
    · exact oneO_all S ds r ha.2 h2 u hu

theorem cells_of (S : St s.own loc M0 w.heap) {d : DVal} {v : Value} (hp : plainD s.own d = true) (hd : Rds s loc M0 w d v) :
    rdV (cu s loc) (hm s loc M0) w.heap (cellsD d) v.cells.toList ∧ ∀ u ∈ v.cells.toList, u.oneCell' = true := by
  have base : oneO s.own d = true → rdV (cu s loc) (hm s loc M0) w.heap [d] v.cells.toList ∧ ∀ u ∈ v.cells.toList, u.oneCell' = true := by
    intro ho
    obtain ⟨h1, h2⟩ := oneO_ok S ho hd
    rw [h2]
    refine ⟨by simp only [rdV]; exact ⟨v, [], rfl, hd, rfl⟩, by simpa using h1⟩
  cases d
  case agg cs =>
    simp only [Rds, rd] at hd
    obtain ⟨us, rfl, hus⟩ := hd
    exact ⟨hus, oneO_all S cs _ hp hus⟩
  all_goals exact base (by simpa [plainD, cellsD] using hp)

theorem y_box (S : St s.own loc M0 w.heap) {t : TypeId} {d : DVal} {v : Value} (hp : plainD s.own d = true) (hd : Rds s loc M0 w d v) : Yields P s loc M0 w (Instr.box t v) (.ref (cellsD d)) := by
  obtain ⟨h1, h2⟩ := cells_of S hp hd
  obtain ⟨g1, g2, g3, g4⟩ := y_newRow (ty := t) h1 h2 S
  refine ⟨.pointer (some ⟨w.heap.size, 0, none⟩), _, ?_, g1, ?_⟩
  · simp [Instr.box, newVar, newRow]
  · simp only [rd]
    exact ⟨_, 0, _, _, _, rfl, g2, g3, g4⟩

theorem splice_run : ∀ (us : List Value) (arr : Array Value) (off i : Nat), off + i + us.length ≤ arr.size →
    ((us.zipIdx i).foldl (fun cs (c, j) => cs.setIfInBounds (off + j) c) arr).toList = arr.toList.take (off + i) ++ us ++ arr.toList.drop (off + i + us.length)
  | [], arr, off, i, _ => by simp
  | u :: us, arr, off, i, h => by
    simp only [List.length_cons] at h
    simp only [List.zipIdx_cons, List.foldl_cons]
    rw [splice_run us _ off (i + 1) (by simp; omega)]
    simp only [Array.toList_setIfInBounds, List.length_cons]
    have hlt : off + i < arr.toList.length := by simp; omega
    rw [List.set_eq_take_append_cons_drop, if_pos hlt]
    have e1 : (arr.toList.take (off + i)).length = off + i := by simp; omega
    rw [show off + (i + 1) = (off + i) + 1 by omega, List.take_append, e1]
    simp only [List.append_assoc, show off + i + 1 - (off + i) = 1 by omega]
    rw [List.take_take, List.drop_append, e1]
    simp only [show min (off + i + 1) (off + i) = off + i by omega]
    rw [List.drop_take]
    have e2 : off + i + 1 + us.length - (off + i) = us.length + 1 := by omega
    have e3 : off + i - (off + i + 1 + us.length) = 0 := by omega
    simp only [e2, e3, List.take_zero, List.nil_append, List.drop_succ_cons, List.drop_drop, List.take_succ_cons, List.cons_append]
    simp
    congr 1
    omega

theorem fill_ok {placeD placeV : Nat → Option (Nat × Nat)} (hpl : ∀ i x, placeD i = some x → placeV i = some x) :
    ∀ (ds : List (Nat × DVal)) (vs : List (Nat × Value)) (cells : List DVal) (arr : Array Value) (out : List DVal), ds.map (·.1) = vs.map (·.1) →
      (∀ (i : Nat) (p : Nat × DVal) (q : Nat × Value), ds[i]? = some p → vs[i]? = some q → rdV (cu s loc) (hm s loc M0) w.heap (cellsD p.2) q.2.cells.toList) →
      rdV (cu s loc) (hm s loc M0) w.heap cells arr.toList → fillD placeD cells ds = some out → ∃ arr', Instr.fill placeV arr vs = some arr' ∧ rdV (cu s loc) (hm s loc M0) w.heap out arr'.toList
  | [], vs, cells, arr, out, hi, _, hc, hf => by
    simp only [List.map_nil] at hi
    have : vs = [] := by cases vs <;> simp_all
    subst this
    simp only [fillD, Option.some.injEq] at hf; subst hf
    exact ⟨arr, rfl, hc⟩
  | (i, d) :: ds, [], cells, arr, out, hi, _, _, _ => by simp at hi
  | (i, d) :: ds, (i', v) :: vs, cells, arr, out, hi, hr, hc, hf => by
    simp only [List.map_cons, List.cons.injEq] at hi
    obtain ⟨rfl, hi⟩ := hi
    simp only [fillD] at hf
    split at hf
    · simp at hf
    rename_i off size hp
    split at hf
    rotate_left
    · simp at hf
    rename_i hsz
    have h0 := hr 0 (i, d) (i, v) (by simp) (by simp)
    have hl0 := rdV_length _ _ h0
    have hlc := rdV_length _ _ hc
    simp only [Array.length_toList] at hl0 hlc
    have hrun := splice_run v.cells.toList arr off 0 (by simp; omega)
    have key : rdV (cu s loc) (hm s loc M0) w.heap (splice cells off (cellsD d)) (v.cells.zipIdx.foldl (fun cs (c, j) => cs.setIfInBounds (off + j) c) arr).toList := by
      rw [← Array.foldl_toList, Array.toList_zipIdx, hrun]
      unfold splice
      refine rdV_append _ _ _ _ (rdV_append _ _ _ _ ?_ h0) ?_
      · simpa using rdV_take off _ _ hc
      · simpa [hl0] using rdV_drop (off + (cellsD d).length) _ _ hc
    have ih := fill_ok hpl ds vs _ _ out hi (fun j p q hp hq => hr (j + 1) p q (by simpa using hp) (by simpa using hq)) key hf
    obtain ⟨arr', h1, h2⟩ := ih
    refine ⟨arr', ?_, h2⟩
    simp only [Instr.fill, hpl _ _ hp]
    rw [if_neg (by simp; omega)]
    exact h1

theorem tField_mapM {t : TypeId} {fs : Array Field} (hu : P.underlying t = some (.struct fs)) (hall : ∀ f ∈ fs.toList, (tCells P f.type).isSome = true) :
    (fs.mapM (m := Sem) fun f => do pure (f.offset, ← sizeOf f.type)).run P w = .ok (fs.map fun f => (f.offset, (tCells P f.type).getD 0)) w := by
  rw [← Array.toArray_toList (xs := fs)]
  generalize fs.toList = l at hall
  rw [List.mapM_toArray]
  have : ∀ (l : List Field), (∀ f ∈ l, (tCells P f.type).isSome = true) → (l.mapM (m := Sem) fun f => do pure (f.offset, ← sizeOf f.type)).run P w = .ok (l.map fun f => (f.offset, (tCells P f.type).getD 0)) w := by
    intro l
    induction l with
    | nil => intro _; simp
    | cons f l ih =>
      intro h
      obtain ⟨n, hn⟩ := Option.isSome_iff_exists.1 (h f List.mem_cons_self)
      have ih' := ih (fun g hg => h g (List.mem_cons_of_mem _ hg))
      simp only [List.mapM_cons, Sem.run_bind, run_sizeOf' hn, Result.andThen_ok, Sem.run_pure, ih', List.map_cons, hn, Option.getD_some]
  rw [Sem.run_map, this l hall]
  simp

theorem tZero_ok {t : TypeId} {z : List DVal} (hz : tZero P t = some z) : ∃ v, (zeroValue t).run P w = .ok v w ∧ z = v.cells.toList.map ofV1 := by
  unfold tZero at hz
  split at hz
  · rename_i i hi
    cases hv : i.zero with
    | none => simp [hv] at hz
    | some v =>
      simp only [hv, Option.map_some, Option.some.injEq] at hz
      exact ⟨v, by simp [zeroValue, typeInfo, hi, hv], hz.symm⟩
  · simp at hz

theorem y_build (S : St s.own loc M0 w.heap) {t : TypeId} {z out : List DVal} {fs : Array Field} {ds : List (Nat × DVal)} {vs : Array (Nat × Value)} (hz : tZero P t = some z) (hs : tStruct P t = some fs)
    (hall : fs.toList.all (fun f => (tCells P f.type).isSome) = true)
    (hi : ds.map (·.1) = vs.toList.map (·.1)) (hr : ∀ (i : Nat) (p : Nat × DVal) (q : Nat × Value), ds[i]? = some p → vs.toList[i]? = some q → rdV (cu s loc) (hm s loc M0) w.heap (cellsD p.2) q.2.cells.toList)
    (hf : fillD (tPlace P t) z ds = some out) : Yields P s loc M0 w (Instr.build t vs) (.agg out) := by
  obtain ⟨zv, hzr, rfl⟩ := tZero_ok (w := w) hz
  have hu : P.underlying t = some (.struct fs) := by
    unfold tStruct at hs
    split at hs
    · simp only [Option.some.injEq] at hs; subst hs; assumption
    · simp at hs
  have hm' := tField_mapM (P := P) (w := w) hu (List.all_eq_true.1 hall)
  have hpl : ∀ i x, tPlace P t i = some x → ((fs.map fun f => (f.offset, (tCells P f.type).getD 0))[i]?) = some x := by
    intro i x hx
    unfold tPlace tField at hx
    rw [hu] at hx
    simp only at hx
    cases hfi : fs[i]? with
    | none => simp [hfi] at hx
    | some f =>
      simp only [hfi] at hx
      cases hc : tCells P f.type with
      | none => simp [hc] at hx
      | some n =>
        cases ha : tAgg P f.type with
        | none => simp [hc, ha] at hx
        | some b =>
          simp only [hc, ha, Option.map_some, Option.some.injEq] at hx
          simp [hfi, hc, hx]
  obtain ⟨arr', h1, h2⟩ := fill_ok hpl ds vs.toList _ zv.cells out hi hr (rdV_map_ofV1 _) hf
  refine Yields.same (v := .agg arr') ?_ (by simp only [Rds, rd]; exact ⟨arr', rfl, h2⟩)
  simp only [Instr.build, Sem.run_bind, hzr, Result.andThen_ok, run_underlying hu, hm', h1, Sem.run_pure]

theorem y_len (S : St s.own loc M0 w.heap) {t ty : TypeId} {d : DVal} {v : Value} {k bs : Nat} {es : List (List DVal)} (ht : (tElem P t).isSome = true) (hd : Rds s loc M0 w d v) (hr : rowsOf s.own d = some (k, bs, es)) :
    Yields P s loc M0 w (Builtin.len_ #[t] ty #[v]) (.int .i64 es.length) := by
  obtain ⟨x, hx⟩ := Option.isSome_iff_exists.1 ht
  obtain ⟨e, i, hu, _⟩ := tElem_some (k := x.1) (bs := x.2) hx
  obtain ⟨a, cap, rfl, h2, h3, _⟩ := rowsOf_ok S hd hr
  refine Yields.same (v := .int .i64 es.length) ?_ ?_
  · simp [Builtin.len_, run_underlying hu, goInt]
  · simp only [Rds, rd, inR, true_and]; unfold maxLen at h3; omega

theorem fill_seq (k : Nat) : ∀ (vs : List (Nat × Value)) (i0 : Nat) (pre rest : List Value), vs.map (·.1) = List.range' i0 vs.length → (∀ q ∈ vs, q.2.cells.size = k) → pre.length = i0 * k → rest.length = vs.length * k →
    Instr.fill (fun i => some (i * k, k)) (pre ++ rest).toArray vs = some (pre ++ vs.flatMap fun q => q.2.cells.toList).toArray
  | [], i0, pre, rest, _, _, _, hr => by
    simp only [List.length_nil, Nat.zero_mul, List.length_eq_zero_iff] at hr
    subst hr
    simp [Instr.fill]
  | (i, v) :: vs, i0, pre, rest, hi, hk, hp, hr => by
    simp only [List.map_cons, List.length_cons, List.range'_succ, List.cons.injEq] at hi
    obtain ⟨rfl, hi⟩ := hi
    have hv : v.cells.size = k := hk _ List.mem_cons_self
    simp only [List.length_cons, Nat.add_mul, Nat.one_mul] at hr
    simp only [Instr.fill]
    rw [if_neg (by simp; omega)]
    have hrun := splice_run v.cells.toList (pre ++ rest).toArray (i * k) 0 (by simp; omega)
    have e : (v.cells.zipIdx.foldl (fun cs (c, j) => cs.setIfInBounds (i * k + j) c) (pre ++ rest).toArray) = ((pre ++ v.cells.toList) ++ rest.drop k).toArray := by
      apply Array.ext'
      rw [← Array.foldl_toList, Array.toList_zipIdx, hrun]
      simp only [Nat.add_zero, List.append_assoc]
      rw [List.take_append_of_le_length (by omega), List.take_of_length_le (by omega), Array.length_toList, hv, ← hp, List.drop_append, List.drop_of_length_le (by omega)]
      simp
    rw [e, fill_seq k vs (i + 1) (pre ++ v.cells.toList) (rest.drop k) hi (fun q hq => hk q (List.mem_cons_of_mem _ hq)) (by simp [hp, hv, Nat.add_mul]) (by simp; omega)]
    simp

theorem rdR_flat {cur : Cur} {M : List Nat} {H : Array Obj} (k : Nat) : ∀ (ds : List (List DVal)) (vs : List (List Value)) (pre : List Value), ds.length = vs.length →
    (∀ (i : Nat) (cs : List DVal) (us : List Value), ds[i]? = some cs → vs[i]? = some us → cs.length = k ∧ rdV cur M H cs us ∧ ∀ u ∈ us, u.oneCell' = true) → rdR cur M H k ds (pre ++ vs.flatten).toArray pre.length
  | [], vs, pre, _, _ => by simp [rdR]
  | d :: ds, [], pre, hl, _ => by simp at hl
  | d :: ds, u :: vs, pre, hl, h => by
    have h0 := h 0 d u (by simp) (by simp)
    have hlen := rdV_length _ _ h0.2.1
    have key : ∀ (cs : List DVal) (us pre post : List Value), rdV cur M H cs us → (∀ u ∈ us, u.oneCell' = true) → rdC cur M H cs (pre ++ us ++ post).toArray pre.length := by
      intro cs
      induction cs with
      | nil => intros; simp [rdC]
      | cons d ds ih =>
        intro us pre post hr ho
        simp only [rdV] at hr
        obtain ⟨v, r, rfl, h1, h2⟩ := hr
        simp only [rdC]
        refine ⟨⟨v, by simp, ho v List.mem_cons_self, h1⟩, ?_⟩
        have := ih r (pre ++ [v]) post h2 (fun u hu => ho u (List.mem_cons_of_mem _ hu))
        simpa using this
    simp only [rdR]
    refine ⟨h0.1, ?_, ?_⟩
    · have := key d u pre vs.flatten h0.2.1 h0.2.2
      simpa using this
    · have ih := rdR_flat k ds vs (pre ++ u) (by simpa using hl) (fun i cs us h1 h2 => h (i + 1) cs us (by simpa using h1) (by simpa using h2))
      have e : (pre ++ u).length = pre.length + k := by simp [hlen, h0.1]
      rw [e] at ih
      simpa using ih

theorem run_buildSlice (S : St s.own loc M0 w.heap) {t len k bs : Nat} {ds : List DVal} {vs : Array (Nat × Value)} (ht : tElem P t = some (k, bs)) (hk0 : 0 < k) (hl1 : len * k ≤ 16777216) (hl2 : len * bs ≤ 150000000000000) (hl3 : len ≤ 16777216)
    (hi : vs.toList.map (·.1) = List.range len) (hlen : ds.length = len) (hp : ds.all (fun d => plainD s.own d && (cellsD d).length == k) = true)
    (hr : ∀ (i : Nat) (d : DVal) (q : Nat × Value), ds[i]? = some d → vs.toList[i]? = some q → Rds s loc M0 w d q.2)
    (hz : (match P.underlying t with | some (.slice e) => (tZero P e).isSome | _ => false) = true) : ∃ (e : TypeId) (us : List Value), P.underlying t = some (.slice e) ∧ (Instr.buildSlice t len vs).run P w = .ok (.slice (some ⟨w.heap.size, 0, none⟩) len len) (w.alloc (.cells us.toArray e)) ∧ us.length = len * k ∧ rdR (cu s loc) (hm s loc M0) w.heap k (ds.map cellsD) us.toArray 0 := by
  obtain ⟨e, ei, hu, hei, _, _, hce⟩ := tElem_some ht
  rw [hu] at hz
  obtain ⟨z, hz⟩ := Option.isSome_iff_exists.1 hz
  obtain ⟨zv, hzr, _⟩ := tZero_ok (w := w) hz
  have hvl : vs.toList.length = len := by have := congrArg List.length hi; simpa using this
  have hcell : ∀ (i : Nat) (d : DVal) (q : Nat × Value), ds[i]? = some d → vs.toList[i]? = some q → (cellsD d).length = k ∧ rdV (cu s loc) (hm s loc M0) w.heap (cellsD d) q.2.cells.toList ∧ ∀ u ∈ q.2.cells.toList, u.oneCell' = true := by
    intro i d q hd hq
    have h1 := List.all_eq_true.1 hp d (List.mem_of_getElem? hd)
    simp only [Bool.and_eq_true, beq_iff_eq] at h1
    exact ⟨h1.2, cells_of S h1.1 (hr i d q hd hq)⟩
  have hsz : ∀ q ∈ vs.toList, q.2.cells.size = k := by
    intro q hq
    obtain ⟨i, hi', hq'⟩ := List.getElem_of_mem hq
    have hid : i < ds.length := by omega
    have := hcell i ds[i] q (List.getElem?_eq_getElem hid) (by rw [List.getElem?_eq_getElem hi', hq'])
    have hl := rdV_length _ _ this.2.1
    simp only [Array.length_toList] at hl
    omega
  have hfill : ∀ Z : Array Value, Z.size = len * k → Instr.fill (fun i => some (i * k, k)) Z vs.toList = some (vs.toList.flatMap fun q => q.2.cells.toList).toArray := by
    intro Z hZs
    have := fill_seq k vs.toList 0 [] Z.toList (by rw [hi, hvl, List.range_eq_range']) hsz (by simp) (by simp only [Array.length_toList, hZs, hvl])
    simpa using this
  let us : List Value := vs.toList.flatMap fun q => q.2.cells.toList
  have hul : ∀ l : List (Nat × Value), (∀ q ∈ l, q.2.cells.size = k) → (l.flatMap fun q => q.2.cells.toList).length = l.length * k := by
    intro l
    induction l with
    | nil => intro _; simp
    | cons q l ih =>
      intro hq
      have h1 := hq q List.mem_cons_self
      have h2 := ih fun x hx => hq x (List.mem_cons_of_mem _ hx)
      simp only [List.flatMap_cons, List.length_append, List.length_cons, Array.length_toList, h1, h2, Nat.add_mul]
      omega
  refine ⟨e, us, hu, ?_, by rw [hul _ hsz, hvl], ?_⟩
  · have h24 : ¬ (len * k > 2 ^ 24) := by have : (2:Nat) ^ 24 = 16777216 := by decide
                                          omega
    simp only [Instr.buildSlice, Sem.run_bind, run_underlying hu, Result.andThen_ok, run_sizeOf' hce, h24, if_false]
    by_cases h0 : len * k = 0
    · simp only [h0, if_true, Sem.run_bind, Sem.run_pure, Result.andThen_ok]
      rw [hfill _ (by simp [h0])]
      simp [newRow, us]
    · simp only [h0, if_false, Sem.run_bind, hzr, Sem.run_pure, Result.andThen_ok]
      rw [hfill _ (by simp)]
      simp [newRow, us]
  · have := rdR_flat (cur := cu s loc) (M := hm s loc M0) (H := w.heap) k (ds.map cellsD) (vs.toList.map fun q => q.2.cells.toList) [] (by rw [List.length_map, List.length_map, hlen, hvl]) (by
      intro i cs us h1 h2
      simp only [List.getElem?_map, Option.map_eq_some_iff] at h1 h2
      obtain ⟨d, hd, rfl⟩ := h1
      obtain ⟨q, hq, rfl⟩ := h2
      exact hcell i d q hd hq)
    simpa [us, List.flatMap] using this

theorem y_buildSlice (S : St s.own loc M0 w.heap) {t len k bs : Nat} {ds : List DVal} {vs : Array (Nat × Value)} (ht : tElem P t = some (k, bs)) (hk0 : 0 < k) (hl1 : len * k ≤ 16777216) (hl2 : len * bs ≤ 150000000000000) (hl3 : len ≤ 16777216)
    (hi : vs.toList.map (·.1) = List.range len) (hlen : ds.length = len) (hp : ds.all (fun d => plainD s.own d && (cellsD d).length == k) = true)
    (hr : ∀ (i : Nat) (d : DVal) (q : Nat × Value), ds[i]? = some d → vs.toList[i]? = some q → Rds s loc M0 w d q.2)
    (hz : (match P.underlying t with | some (.slice e) => (tZero P e).isSome | _ => false) = true) : Yields P s loc M0 w (Instr.buildSlice t len vs) (.sl k bs (ds.map cellsD)) := by
  obtain ⟨e, us, _, h1, _, h2⟩ := run_buildSlice (M0 := M0) S ht hk0 hl1 hl2 hl3 hi hlen hp hr hz
  have hnew : (w.alloc (.cells us.toArray e)).heap[w.heap.size]? = some (.cells us.toArray e (0, 0)) := heap_alloc_new w _
  refine ⟨_, _, h1, Upd.alloc _ _ _, ?_⟩
  simp only [rd]
  refine ⟨_, len, by simp [hlen]; rfl, by simp [hlen], by unfold maxLen; omega, by simpa [hlen] using hl2, ?_⟩
  refine .inr ⟨w.heap.size, 0, us.toArray, e, (0, 0), rfl, fun hmm => by have := S.lt _ hmm; omega, hnew, ?_⟩
  have W : Weak (cu s loc) (cu s loc) (hm s loc M0) (hm s loc M0) w.heap (w.alloc (.cells us.toArray e)).heap (mxR (ds.map cellsD)) :=
    weak_step (Upd.alloc [] w _).nil (fun b hb => .inl hb) (fun e' he' _ => curOf_self S.nd he')
  exact rdR_weak W k _ _ 0 (Nat.le_refl _) h2

theorem mapOf_ok (S : St s.own loc M0 w.heap) {p : DVal} {v : Value} {ks vs : List DVal} (hp : Rds s loc M0 w p v) (hc : mapOf s.own p = some (ks, vs)) :
    (v = .map none ∧ ks = [] ∧ vs = []) ∨ ∃ b es clk, v = .map (some b) ∧ w.heap[b]? = some (.map es clk) ∧ bornOK es clk ∧ rdV (cu s loc) (hm s loc M0) w.heap ks (es.toList.map (·.key)) ∧ rdV (cu s loc) (hm s loc M0) w.heap vs (es.toList.map (·.val)) := by
  unfold mapOf at hc
  split at hc
  · simp only [Option.some.injEq, Prod.mk.injEq] at hc
    obtain ⟨rfl, rfl⟩ := hc
    simp only [Rds, rd] at hp
    obtain ⟨b, es, clk, h1, _, h3, h4, h5, h6⟩ := hp
    exact .inr ⟨b, es, clk, h1, h3, h4, h5, h6⟩
  · simp only [Option.some.injEq, Prod.mk.injEq] at hc
    obtain ⟨rfl, rfl⟩ := hc
    simp only [Rds, rd] at hp
    exact .inl ⟨hp, rfl, rfl⟩
  · rename_i id r
    split at hc
    · rename_i e he
      split at hc
      · rename_i her
        split at hc
        · rename_i ks0 vs0 hobj
          simp only [Option.some.injEq, Prod.mk.injEq] at hc
          obtain ⟨rfl, rfl⟩ := hc
          obtain ⟨hm', hid⟩ := findE_mem he
          have hk := S.ok e hm'
          rw [hobj] at hk
          obtain ⟨b, es, clk, h1, h2, h3, h4, h5⟩ := hk
          simp only [Rds, rd] at hp
          obtain ⟨b', hb', hv⟩ := hp (loc id) (by unfold cu curOf; rw [he]; simp [her])
          rw [← hid, h1] at hb'
          simp only [List.cons.injEq, and_true] at hb'; subst hb'
          exact .inr ⟨b, es, clk, hv, h2, h3, h4, h5⟩
        · simp at hc
      · simp at hc
    · simp at hc
  · simp at hc

theorem tMap_und {t : TypeId} {x : TypeId × TypeId} (h : tMap P t = some x) : P.underlying t = some (.map x.1 x.2) := by
  unfold tMap at h
  split at h
  · simp only [Option.some.injEq] at h; subst h; assumption
  · simp at h

theorem y_lookup (S : St s.own loc M0 w.heap) {t kt et : TypeId} {d x z : DVal} {v u : Value} {ks vs : List DVal} {ok : Bool} (ht : tMap P t = some (kt, et)) (hd : Rds s loc M0 w d v) (hc : mapOf s.own d = some (ks, vs)) (hx : Rds s loc M0 w x u)
    (hk : keyOK P kt x = true) (hks : ks.all (keyOK P kt) = true) (hz : tZeroD P et = some z) :
    Yields P s loc M0 w (Instr.lookup t v u ok) (if ok then .tup [(match lookI ks x with | some j => vs.getD j .any | none => z), .bool (lookI ks x).isSome] else (match lookI ks x with | some j => vs.getD j .any | none => z)) := by
  obtain ⟨zv, hzr, hzd⟩ := tZeroD_ok (P := P) (cur := cu s loc) (M := hm s loc M0) (h := w.heap) hz (w := w)
  have hu := tMap_und ht
  simp only at hu
  have fin : ∀ (es : Array MapEntry) (v1 : Value) (b1 : Bool) (d1 : DVal), Rds s loc M0 w d1 v1 → (Instr.lookup t v u ok).run P w = .ok (if ok then .tuple #[v1, .bool b1] else v1) w → Yields P s loc M0 w (Instr.lookup t v u ok) (if ok then .tup [d1, .bool b1] else d1) := by
    intro es v1 b1 d1 hd1 hr
    refine Yields.same hr ?_
    cases ok
    · exact hd1
    · simp only [if_true, Rds, rd]
      exact ⟨_, rfl, by simp only [rdV]; exact ⟨v1, [.bool b1], rfl, hd1, .bool b1, [], rfl, by simp only [rd], rfl⟩⟩
  rcases mapOf_ok S hd hc with ⟨rfl, rfl, rfl⟩ | ⟨b, es, clk, rfl, hb, _, h5, h6⟩
  · have hch := run_checkKey' (w := w) (e := true) hk hx
    refine fin #[] zv false _ ?_ ?_
    · simpa [lookI] using hzd
    · have hf := run_findKey (w := w) hk hx [] [] (by simp) (by simp [rdV])
      simp only [lookI, Option.map_none] at hf
      cases ok <;> simp [Instr.lookup, run_underlying hu, hch, hf, hzr]
  · have hch := run_checkKey' (w := w) (e := es.isEmpty) hk hx
    have hf := run_findKey (w := w) hk hx es.toList ks hks h5
    have hg : (getObj b).run P w = .ok (.map es clk) w := _root_.Go.run_getObj_map (P := P) (w := w) b es clk hb
    cases hl : lookI ks x with
    | none =>
      rw [hl] at hf
      simp only [Option.map_none] at hf
      refine fin es zv false _ hzd ?_
      cases ok <;> simp [Instr.lookup, run_underlying hu, hg, hch, hf, hzr]
    | some j =>
      rw [hl] at hf
      simp only [Option.map_some] at hf
      have hj := lookI_lt hl
      have hle := rdV_length _ _ h5
      have hlv := rdV_length _ _ h6
      simp only [List.length_map, Array.length_toList] at hle hlv
      have hjv : j < vs.length := by omega
      obtain ⟨v1, hv1, hr1⟩ := rdV_at _ _ j _ h6 (List.getElem?_eq_getElem hjv)
      rw [List.getElem?_map] at hv1
      refine fin es v1 true _ ?_ ?_
      · simp only [List.getD_eq_getElem?_getD, List.getElem?_eq_getElem hjv, Option.getD_some]; exact hr1
      · rw [hv1] at hf
        simp only [Option.getD_some] at hf
        cases ok <;> simp [Instr.lookup, run_underlying hu, hg, hch, hf]

theorem y_lenMap (S : St s.own loc M0 w.heap) {t ty : TypeId} {d : DVal} {v : Value} {ks vs : List DVal} (ht : (tMap P t).isSome = true) (hd : Rds s loc M0 w d v) (hc : mapOf s.own d = some (ks, vs)) (hl : (ks.length : Int) ≤ 9223372036854775807) :
    Yields P s loc M0 w (Builtin.len_ #[t] ty #[v]) (.int .i64 ks.length) := by
  obtain ⟨y, hy⟩ := Option.isSome_iff_exists.1 ht
  have hu := tMap_und hy
  rcases mapOf_ok S hd hc with ⟨rfl, rfl, rfl⟩ | ⟨b, es, clk, rfl, hb, _, h5, _⟩
  · exact Yields.same (v := .int .i64 0) (by simp [Builtin.len_, run_underlying hu, goInt]) (by simp [Rds, rd, inR])
  · have hln := rdV_length _ _ h5
    simp only [List.length_map, Array.length_toList] at hln
    have hg : (getObj b).run P w = .ok (.map es clk) w := _root_.Go.run_getObj_map (P := P) (w := w) b es clk hb
    refine Yields.same (v := .int .i64 es.size) (by simp [Builtin.len_, run_underlying hu, goInt, hg]) ?_
    simp only [Rds, rd, inR, hln]
    exact ⟨trivial, by omega, hl⟩

theorem rdR_drop {cur : Cur} {M : List Nat} {H : Array Obj} {k : Nat} : ∀ (n : Nat) (es : List (List DVal)) (arr : Array Value) (o : Nat), rdR cur M H k es arr o → rdR cur M H k (es.drop n) arr (o + n * k)
  | 0, es, arr, o, hr => by simpa using hr
  | n + 1, [], arr, o, hr => by simp [rdR]
  | n + 1, c :: es, arr, o, hr => by
    simp only [rdR] at hr
    have := rdR_drop n es arr (o + k) hr.2.2
    simp only [List.drop_succ_cons]
    rwa [show o + k + n * k = o + (n + 1) * k by rw [Nat.add_mul]; omega] at this
theorem rdR_take {cur : Cur} {M : List Nat} {H : Array Obj} {k : Nat} : ∀ (n : Nat) (es : List (List DVal)) (arr : Array Value) (o : Nat), rdR cur M H k es arr o → rdR cur M H k (es.take n) arr o
  | 0, es, arr, o, hr => by simp [rdR]
  | n + 1, [], arr, o, hr => by simp [rdR]
  | n + 1, c :: es, arr, o, hr => by
    simp only [rdR, List.take_succ_cons] at hr ⊢
    exact ⟨hr.1, hr.2.1, rdR_take n es arr (o + k) hr.2.2⟩

theorem run_sliceBound {e : Operand → DVal} {x : Operand} (hρ : Rds s loc M0 w (e x) (ρ x)) {d : Int} {y : Nat} {c : BoundsCode} (h0 : 0 ≤ ixV e d (some x)) (h1 : ixV e d (some x) ≤ y) : (Instr.sliceBound (ρ x) y c).run P w = .ok (ixV e d (some x)).toNat w := by
  simp only [ixV] at h0 h1 ⊢
  split at h0
  · rename_i ik n hx
    simp only [hx] at h1 ⊢
    rw [hx] at hρ
    simp only [Rds, rd] at hρ
    rw [hρ.1]
    simp [Instr.sliceBound, asIntOf, h0, h1]
  · omega

theorem run_sliceBounds0 {e : Operand → DVal} (hρ : ∀ x, Rds s loc M0 w (e x) (ρ x)) {b : Bool} {len cap : Nat} {l h : Option Operand} (hp : sliceP e len l h none) (hc : len ≤ cap) :
    (Instr.sliceBounds b len cap (l.map ρ) (h.map ρ) none).run P w = .ok ((ixV e 0 l).toNat, (ixV e len h).toNat, cap) w := by
  obtain ⟨h0, h1, h2, h3, h4⟩ := hp
  have en : ∀ d, ixV e d none = d := fun _ => rfl
  rw [en] at h2 h3
  cases h with
  | none =>
    rw [en] at h1 ⊢
    cases l with
    | none => simp [Instr.sliceBounds, en]
    | some y =>
      have hb := run_sliceBound (P := P) (c := .sliceB) (hρ y) (d := 0) (y := len) h0 h1
      simp [Instr.sliceBounds, hb]
  | some x =>
    have hh := run_sliceBound (P := P) (c := if b then .sliceAcap else .sliceAlen) (hρ x) (d := len) (y := cap) (by omega) (by omega)
    cases l with
    | none => simp [Instr.sliceBounds, en, hh]
    | some y =>
      have hb := run_sliceBound (P := P) (c := .sliceB) (hρ y) (d := 0) (y := (ixV e len (some x)).toNat) h0 (by omega)
      simp [Instr.sliceBounds, hb, hh]

/-- an own row's header -/
theorem row_form (S : St s.own loc M0 w.heap) {id r et k bs : Nat} {es : List (List DVal)} {e : Ent} (he : findE s.own id = some e) (her : e.r = r) (hob : e.obj = .row et k bs es) :
    curOf s.own loc id r = some (loc id) ∧ ∃ a cap, (loc id).hdr = .slice a es.length cap ∧ es.length ≤ cap ∧ cap ≤ maxLen ∧ ((es = [] ∧ (loc id).blks = [] ∧ a = none ∧ cap = 0) ∨ ∃ b, (loc id).blks = [b] ∧ a = some ⟨b, 0, none⟩) := by
  obtain ⟨hm', hid⟩ := findE_mem he
  have hk := S.ok e hm'
  rw [hob] at hk
  obtain ⟨_, hk⟩ := hk
  rw [hid] at hk
  refine ⟨by unfold curOf; rw [he]; simp [her], ?_⟩
  rcases hk with ⟨rfl, h1, h2⟩ | ⟨b, arr, cap, p1, p2, p3, p4, p5, p6, p7⟩
  · exact ⟨none, 0, h2, by simp, by unfold maxLen; omega, .inl ⟨rfl, h1, rfl, rfl⟩⟩
  · exact ⟨_, cap, p2, p4, p5, .inr ⟨b, p1, rfl⟩⟩
theorem rowsOf_ent {own : List Ent} {d : DVal} {id r k bs : Nat} {es : List (List DVal)} (hd : d = .osl id r) (h : rowsOf own d = some (k, bs, es)) : ∃ e et, findE own id = some e ∧ e.r = r ∧ e.obj = .row et k bs es := by
  subst hd
  unfold rowsOf at h
  simp only at h
  split at h
  · rename_i e he
    split at h
    · rename_i her
      split at h
      · rename_i et k' bs' es' hob
        simp only [Option.some.injEq, Prod.mk.injEq] at h
        obtain ⟨rfl, rfl, rfl⟩ := h
        exact ⟨e, et, he, her, hob⟩
      · simp at h
    · simp at h
  · simp at h
theorem rowsOf_vw {own : List Ent} {d : DVal} {id r k bs i n : Nat} (hd : d = .vw id r k bs i n) (h : (rowsOf own d).isSome = true) : ∃ e et es, findE own id = some e ∧ e.r = r ∧ e.obj = .row et k bs es ∧ i + n ≤ es.length := by
  subst hd
  unfold rowsOf at h
  simp only at h
  split at h
  · rename_i e he
    split at h
    · rename_i her
      split at h
      · rename_i et k' bs' es' hob
        split at h
        · rename_i hb
          obtain ⟨rfl, rfl, hb⟩ := hb
          exact ⟨e, et, es', he, her, hob, hb⟩
        · simp at h
      · simp at h
    · simp at h
  · simp at h

theorem run_sliceBounds {e : Operand → DVal} (hρ : ∀ x, Rds s loc M0 w (e x) (ρ x)) {b : Bool} {len cap : Nat} {l h m : Option Operand} (hp : sliceP e len l h m) (hc : len ≤ cap) :
    ∃ mm, (Instr.sliceBounds b len cap (l.map ρ) (h.map ρ) (m.map ρ)).run P w = .ok ((ixV e 0 l).toNat, (ixV e len h).toNat, mm) w ∧ (ixV e len h).toNat ≤ mm ∧ mm ≤ cap := by
  obtain ⟨h0, h1, h2, h3, h4⟩ := hp
  have en : ∀ d, ixV e d none = d := fun _ => rfl
  cases m with
  | none =>
    rw [en] at h2 h3
    refine ⟨cap, ?_, by omega, Nat.le_refl _⟩
    cases h with
    | none =>
      rw [en] at h1 ⊢
      cases l with
      | none => simp [Instr.sliceBounds, en]
      | some y =>
        have hb := run_sliceBound (P := P) (c := .sliceB) (hρ y) (d := 0) (y := len) h0 h1
        simp [Instr.sliceBounds, hb]
    | some x =>
      have hh := run_sliceBound (P := P) (c := if b then .sliceAcap else .sliceAlen) (hρ x) (d := len) (y := cap) (by omega) (by omega)
      cases l with
      | none => simp [Instr.sliceBounds, en, hh]
      | some y =>
        have hb := run_sliceBound (P := P) (c := .sliceB) (hρ y) (d := 0) (y := (ixV e len (some x)).toNat) h0 (by omega)
        simp [Instr.sliceBounds, hb, hh]
  | some z =>
    obtain ⟨x, rfl⟩ := Option.isSome_iff_exists.1 (h4 rfl)
    have hm := run_sliceBound (P := P) (c := if b then .slice3Acap else .slice3Alen) (hρ z) (d := len) (y := cap) (by omega) (by omega)
    have hh := run_sliceBound (P := P) (c := .slice3B) (hρ x) (d := len) (y := (ixV e len (some z)).toNat) (by omega) (by omega)
    refine ⟨(ixV e len (some z)).toNat, ?_, by omega, by omega⟩
    cases l with
    | none => simp [Instr.sliceBounds, en, hm, hh]
    | some y =>
      have hb := run_sliceBound (P := P) (c := .slice3C) (hρ y) (d := 0) (y := (ixV e len (some x)).toNat) h0 (by omega)
      simp [Instr.sliceBounds, hb, hm, hh]

/-- THE NEUTRAL OPERATIONS DO WHAT 'nVal' SAYS. -/
theorem neu_sound {o : Oper} {e : Operand → DVal} (S : St s.own loc M0 w.heap) (hρ : ∀ x, Rds s loc M0 w (e x) (ρ x)) (hp : nPre P s.own e o.op) :
    ∃ v w', (execOp ρ o).run P w = .ok (.value v) w' ∧ Upd [] w w' ∧ rd (cu s loc) (hm s loc M0) w'.heap (nVal P s.own e o.op) v := by
  obtain ⟨dst, op, type, pos, after, guard⟩ := o
  simp only at hp ⊢
  have fin : ∀ (x : Sem Value) (d : DVal), Yields P s loc M0 w x d → ∃ v w', (do pure (.value (← x)) : Sem Next).run P w = .ok (.value v) w' ∧ Upd [] w w' ∧ rd (cu s loc) (hm s loc M0) w'.heap d v := by
    rintro x d ⟨v, w', h1, h2, h3⟩
    exact ⟨v, w', by rw [Sem.run_bind, h1]; rfl, h2, h3⟩
  have fin' : ∀ (x : Sem Value) (d : DVal), Yields P s loc M0 w x d → ∃ v w', ((x.run P w).andThen fun a w' => Result.ok (Next.value a) w') = .ok (.value v) w' ∧ Upd [] w w' ∧ rd (cu s loc) (hm s loc M0) w'.heap d v := by
    rintro x d ⟨v, w', h1, h2, h3⟩
    exact ⟨v, w', by rw [h1]; rfl, h2, h3⟩
  have one : ∀ (v : Value) (d : DVal), Rds s loc M0 w d v → ∃ v' w', (pure (.value v) : Sem Next).run P w = .ok (.value v') w' ∧ Upd [] w w' ∧ rd (cu s loc) (hm s loc M0) w'.heap d v' :=
    fun v d h => ⟨v, w, rfl, Upd.refl _ _, h⟩
  cases op <;> simp only [nPre] at hp
  case move x => exact one _ _ (hρ x)
  case assign x => exact one _ _ (hρ x)
  case pick c a b =>
    have hc := hρ c
    split at hp
    · rename_i t ht
      rw [ht] at hc
      simp only [Rds, rd] at hc
      simp only [nVal, ht, execOp, hc]
      refine one (if t then ρ a else ρ b) _ ?_
      have ha := hρ a
      have hb := hρ b
      generalize e a = da at *
      generalize e b = db at *
      have plain : Rds s loc M0 w (if t then da else db) (if t then ρ a else ρ b) := by cases t <;> simp <;> assumption
      unfold pickV
      split
      · cases t <;> simpa using plain
      · rename_i p c q
        simp only [pickOK] at hp
        simp only [Rds, rd] at ha hb ⊢
        cases t
        · exact hb.1 (hp rfl)
        · exact ha
      · rename_i c p q
        simp only [pickOK] at hp
        simp only [Rds, rd] at ha hb ⊢
        cases t
        · exact hb
        · exact ha.1 (hp rfl)
      · exact plain
    · exact hp.elim
  case fieldAddr t x f =>
    have hx := hρ x
    simp only [execOp]
    refine fin _ _ ?_
    split at hp
    · rename_i off n b cs hf hd
      rw [hd] at hx
      have := y_fieldAt (P := P) hf hp hx (.inl ⟨cs, rfl⟩)
      simpa only [nVal, hf, hd] using this
    · rename_i off n b id r o hf hd
      rw [hd] at hx
      have := y_fieldAt (P := P) hf hp.1 hx (.inr (.inl ⟨id, r, o, rfl, by rw [isCur_cur hp.2]; rfl⟩))
      simpa only [nVal, hf, hd] using this
    · rename_i off n b id r k i j hf hd
      rw [hd] at hx
      have := y_fieldAt (P := P) hf hp.1 hx (.inr (.inr ⟨id, r, k, i, j, rfl, by rw [isCur_cur hp.2]; rfl⟩))
      simpa only [nVal, hf, hd] using this
    · exact hp.elim
  case load t a =>
    have ha := hρ a
    simp only [execOp]
    refine fin _ _ ?_
    split at hp
    · rename_i n cs hg hn hc
      have := y_load (P := P) S (b := true) hg ha hc (fun _ => ⟨n, hn, hp⟩) (by simp)
      simpa only [nVal, hg, hn, hc, Option.getD_some] using this
    · rename_i cs hg hc
      have := y_load (P := P) S (b := false) hg ha hc (by simp) (fun _ => hp)
      cases hn : tCells P t <;> simpa only [nVal, hg, hn, hc] using this
    · exact hp.elim
  case indexAddr t x i =>
    have hx := hρ x
    have hi := hρ i
    simp only [execOp]
    refine fin _ _ ?_
    split at hp
    · rename_i ik n k bs k' bs' es hei hte hr
      obtain ⟨rfl, h0, h1⟩ := hp
      rw [hei] at hi
      simp only [Rds, rd] at hi
      rw [hi.1]
      have := y_indexAt (P := P) S (ik := ik) hte hx hr h0 h1
      simpa only [nVal, hei] using this
    · exact hp.elim
  case index t x i =>
    have hx := hρ x
    have hi := hρ i
    simp only [execOp]
    refine fin _ _ ?_
    split at hp
    · rename_i str ik n hd hei
      obtain ⟨ht, h0, h1⟩ := hp
      rw [hei] at hi
      rw [hd] at hx
      simp only [Rds, rd] at hi hx
      rw [hi.1, hx.1]
      simp only [nVal, hd, hei]
      have hu : P.underlying t = some .string := by
        unfold tStr at ht
        split at ht
        · assumption
        · simp at ht
      have hlt : n.toNat < str.size := by omega
      refine Yields.same (v := .int .u8 (str[n.toNat]).toNat) ?_ ?_
      · simp [Instr.index, asIntOf, run_underlying hu, h0, hlt]
      · have e : str.data.toList.getD n.toNat 0 = str[n.toNat] := by
          have hlt' : n.toNat < str.data.size := hlt
          rw [List.getD_eq_getElem?_getD, List.getElem?_eq_getElem (by simpa using hlt')]
          rfl
        simp only [Rds, rd, e, inR, true_and]
        have := (str[n.toNat]).toNat_lt
        omega
    · exact hp.elim
  case field t x f =>
    have hx := hρ x
    simp only [execOp]
    refine fin _ _ ?_
    split at hp
    · rename_i off n b cs hf hd
      rw [hd] at hx
      have := y_field (P := P) hf hx hp.1 hp.2
      simpa only [nVal, hf, hd] using this
    · exact hp.elim
  case binOp op t x y ty =>
    obtain ⟨d, hd⟩ := Option.isSome_iff_exists.1 hp
    obtain ⟨r, h1, h2⟩ := dbin_ok (P := P) (w := w) (xo := x) (yo := y) hd (hρ x) (hρ y)
    simp only [execOp]
    refine fin _ _ ?_
    simp only [nVal, hd, Option.getD_some]
    exact Yields.same h1 h2
  case unOp op t x =>
    have hx := hρ x
    simp only [execOp]
    refine fin _ _ ?_
    split at hp
    · rename_i b hd
      rw [hd] at hx
      simp only [Rds, rd] at hx
      rw [hx]
      simp only [nVal, hd]
      exact Yields.same (v := .bool (!b)) rfl (by simp only [Rds, rd])
    · rename_i k n hd
      rw [hd] at hx
      simp only [Rds, rd] at hx
      rw [hx.1]
      simp only [nVal, hd]
      exact Yields.same (v := .int k (k.wrap (0 - n))) rfl (by simp only [Rds, rd, wrap_inR, and_self])
    · exact hp.elim
  case convert src dst x =>
    have hx := hρ x
    obtain ⟨hs, hp⟩ := hp
    obtain ⟨sd, hs⟩ := Option.isSome_iff_exists.1 hs
    simp only [execOp]
    refine fin _ _ ?_
    split at hp
    · rename_i k n hd
      rw [hd] at hx
      simp only [Rds, rd] at hx
      rw [hx.1]
      obtain ⟨k', hk'⟩ := Option.isSome_iff_exists.1 hp
      simp only [nVal, hd, hk']
      have hu : P.underlying dst = some (.int k') := by
        unfold tInt at hk'
        split at hk'
        · simp only [Option.some.injEq] at hk'; subst hk'; assumption
        · simp at hk'
      refine Yields.same (v := .int k' (k'.wrap n)) ?_ (by simp only [Rds, rd, wrap_inR, and_self])
      simp [convert, run_underlying hs, run_underlying hu, Conv.intToInt]
    · rename_i str hd
      rw [hd] at hx
      simp only [Rds, rd] at hx
      simp only [nVal, hd]
      have hu : P.underlying dst = some .string := by
        unfold tStr at hp
        split at hp
        · assumption
        · simp at hp
      refine Yields.same (v := ρ x) ?_ (by simp only [Rds, rd]; exact hx)
      rw [hx.1]
      simp only [convert, Sem.run_bind, run_underlying hs, run_underlying hu, Result.andThen_ok]
      cases sd <;> rfl
    · exact hp.elim
  case extract x i =>
    have hx := hρ x
    simp only [execOp]
    refine fin _ _ ?_
    split at hp
    · rename_i vs hd
      rw [hd] at hx
      simp only [Rds, rd] at hx
      obtain ⟨us, hu, hus⟩ := hx
      rw [hu]
      obtain ⟨v, hv, hr⟩ := rdV_at _ _ i vs[i] hus (List.getElem?_eq_getElem hp)
      simp only [nVal, hd]
      refine Yields.same (v := v) ?_ ?_
      · have hv' : us[i]? = some v := by simpa using hv
        simp [Instr.extract, hv']
      · rw [List.getD_eq_getElem?_getD, List.getElem?_eq_getElem hp]; exact hr
    · exact hp.elim
  case makeFunc f us cs =>
    have key : ∀ l : List Operand, rdV (cu s loc) (hm s loc M0) w.heap (l.map e) (l.map ρ) := by
      intro l
      induction l with
      | nil => simp [rdV]
      | cons x l ih => simp only [List.map_cons, rdV]; exact ⟨_, _, rfl, hρ x, ih⟩
    simp only [execOp, nVal]
    refine fin _ _ (Yields.same (v := .func f (us.map ρ) (cs.map ρ)) rfl ?_)
    simp only [Rds, rd]
    exact ⟨_, _, rfl, by simpa using key us.toList, by simpa using key cs.toList⟩
  case makeInterface t x =>
    simp only [execOp, nVal]
    refine fin _ _ (Yields.same (v := .iface t (ρ x)) ?_ (by simp only [Rds, rd]; exact ⟨_, rfl, hρ x⟩))
    cases hu : P.underlying t with
    | none => simp [hu] at hp
    | some d => cases d <;> simp [hu] at hp <;> simp [Instr.makeInterface, run_underlying hu]
  case nilCheck x =>
    have hx := hρ x
    split at hp
    · rename_i cs hd
      rw [hd] at hx
      simp only [Rds, rd] at hx
      have hx' := hx
      obtain ⟨b, off, arr, ty, fz, hv, _⟩ := hx
      simp only [execOp, hv, nVal, hd]
      exact one _ _ (by rw [← hv]; simp only [Rds, rd]; exact hx')
    · rename_i id r off hd
      rw [hd] at hx
      have hx' := hx
      simp only [Rds, rd] at hx
      obtain ⟨b, _, hv⟩ := hx _ (isCur_cur hp)
      simp only [execOp, hv, nVal, hd]
      exact one _ _ (by rw [← hv]; exact hx')
    · rename_i id r k i j hd
      rw [hd] at hx
      have hx' := hx
      simp only [Rds, rd] at hx
      obtain ⟨b, _, hv⟩ := hx _ (isCur_cur hp)
      simp only [execOp, hv, nVal, hd]
      exact one _ _ (by rw [← hv]; exact hx')
    · rename_i f us cs hd
      rw [hd] at hx
      simp only [Rds, rd] at hx
      have hx' := hx
      obtain ⟨us', cs', hv, _⟩ := hx
      simp only [execOp, hv, nVal, hd]
      exact one _ _ (by rw [← hv]; simp only [Rds, rd]; exact hx')
    · exact hp.elim
  case box t x =>
    simp only [execOp, nVal]
    exact fin _ _ (y_box S hp (hρ x))
  case build t parts =>
    split at hp
    · rename_i z hz
      obtain ⟨h1, h2, h3⟩ := hp
      unfold tParts at h3
      split at h3
      · rename_i fs hs
        obtain ⟨out, hout⟩ := Option.isSome_iff_exists.1 h1
        simp only [execOp, nVal, hz, hout, Option.getD_some]
        refine fin _ _ (y_build S hz hs h3 (ds := parts.toList.map fun p => (p.1, e p.2)) (by simp) ?_ hout)
        intro i p q hp' hq'
        simp only [List.getElem?_map, Option.map_eq_some_iff, Array.toList_map] at hp' hq'
        obtain ⟨a, ha, rfl⟩ := hp'
        obtain ⟨b, hb, rfl⟩ := hq'
        rw [ha] at hb
        simp only [Option.some.injEq] at hb
        subst hb
        exact (cells_of S (List.all_eq_true.1 h2 a (List.mem_of_getElem? ha)) (hρ a.2)).1
      · simp at h3
    · exact hp.elim
  case buildSlice t len parts =>
    split at hp
    · rename_i k bs ht
      obtain ⟨h1, h2, h3, h4, h5, h6, h7⟩ := hp
      simp only [execOp, nVal, ht]
      have hlen : parts.toList.length = len := by have := congrArg List.length h1; simpa using this
      have := y_buildSlice (P := P) (vs := parts.map fun p => (p.1, ρ p.2)) S ht h5 h2 h3 h4 (ds := parts.toList.map fun p => e p.2) (by rw [Array.toList_map, List.map_map]; exact h1) (by simpa using hlen) (by simpa [List.all_map, Function.comp_def] using h6) (by
        intro i d q hd hq
        simp only [List.getElem?_map, Option.map_eq_some_iff, Array.toList_map] at hd hq
        obtain ⟨a, ha, rfl⟩ := hd
        obtain ⟨b, hb, rfl⟩ := hq
        rw [ha] at hb
        simp only [Option.some.injEq] at hb
        subst hb
        exact hρ a.2) h7
      refine fin _ _ ?_
      simpa [List.map_map, Function.comp_def] using this
    · exact hp.elim
  case slice t x l h m =>
    have hx := hρ x
    simp only [execOp]
    refine fin _ _ ?_
    split at hp
    · rename_i k bs es hd
      rw [hd] at hx
      simp only [Rds, rd] at hx
      obtain ⟨a, cap, hv, g1, g2, g3, g4⟩ := hx
      obtain ⟨e', i, hu, hi, hsz, _, _⟩ := tElem_some hp.1
      obtain ⟨mm, hr, k1, k2⟩ := run_sliceBounds (P := P) hρ (b := true) hp.2 g1
      obtain ⟨p0, p1, p2, p3, _⟩ := hp.2
      simp only [nVal, hd]
      rw [hv]
      have hlen : ((es.drop (ixV e 0 l).toNat).take ((ixV e es.length h).toNat - (ixV e 0 l).toNat)).length = (ixV e es.length h).toNat - (ixV e 0 l).toNat := by
        simp only [List.length_take, List.length_drop]; omega
      refine Yields.same (v := .slice (if mm = (ixV e 0 l).toNat then a else a.map (·.add ((ixV e 0 l).toNat * k))) ((ixV e es.length h).toNat - (ixV e 0 l).toNat) (mm - (ixV e 0 l).toNat)) ?_ ?_
      · simp [Instr.sliceAt, Instr.slice, run_underlying hu, hr, sizeOf, typeInfo, hi, hsz]
      · simp only [Rds, rd]
        refine ⟨_, _, by rw [hlen], by rw [hlen]; omega, by omega, ?_, ?_⟩
        · refine Nat.le_trans (Nat.mul_le_mul_right bs ?_) g3
          rw [hlen]; omega
        · by_cases hz : (ixV e es.length h).toNat - (ixV e 0 l).toNat = 0
          · refine .inl ⟨List.eq_nil_of_length_eq_zero (by rw [hlen]; exact hz), ?_⟩
            intro hn
            rcases g4 with ⟨rfl, hc⟩ | ⟨b, off, arr, ty, fz, rfl, _⟩
            · split at hn
              · omega
              · cases a with
                | none => have := hc rfl; omega
                | some a => simp at hn
            · split at hn <;> simp at hn
          · right
            rcases g4 with ⟨rfl, _⟩ | ⟨b, off, arr, ty, fz, rfl, q1, q2, q3⟩
            · simp only [List.length_nil] at hz hlen p3 p2; simp at hlen; omega
            · refine ⟨b, off + (ixV e 0 l).toNat * k, arr, ty, fz, ?_, q1, q2, rdR_take _ _ _ _ (rdR_drop _ _ _ _ q3)⟩
              rw [if_neg (by omega)]
              simp [add_lit]
    · rename_i hd
      rw [hd] at hx
      simp only [Rds, rd] at hx
      obtain ⟨y, hy⟩ := Option.isSome_iff_exists.1 hp.1
      obtain ⟨e', i, hu, hi, hsz, _, _⟩ := tElem_some (k := y.1) (bs := y.2) hy
      obtain ⟨mm, hr, k1, k2⟩ := run_sliceBounds (P := P) hρ (b := true) hp.2 (Nat.le_refl 0)
      obtain ⟨p0, p1, p2, p3, _⟩ := hp.2
      simp only [nVal, hd]
      rw [hx]
      have e0 : ((0 : Nat) : Int) = 0 := rfl
      rw [e0] at hr k1 p1 p2 p3
      have z1 : (ixV e 0 l).toNat = 0 := by omega
      have z2 : (ixV e 0 h).toNat = 0 := by omega
      have z3 : mm = 0 := by omega
      subst z3
      refine Yields.same (v := .slice none 0 0) ?_ (by simp only [Rds, rd])
      simp [Instr.sliceAt, Instr.slice, run_underlying hu, hr, sizeOf, typeInfo, hi, z1, z2]
    · rename_i id r hd
      obtain ⟨rfl, hp⟩ := hp
      rw [hd] at hx
      cases hro : rowsOf s.own (.osl id r) with
      | none => rw [hro] at hp; exact hp.elim
      | some x =>
        obtain ⟨k, bs, es⟩ := x
        rw [hro] at hp
        simp only at hp
        obtain ⟨e', i, hu, hi, hsz, _, _⟩ := tElem_some hp.1
        obtain ⟨e0, et, he0, her, hob⟩ := rowsOf_ent rfl hro
        obtain ⟨hcur, a, cap, hh, g1, g2, g3⟩ := row_form S he0 her hob
        simp only [Rds, rd] at hx
        have hv := hx _ hcur
        rw [hh] at hv
        have hr := run_sliceBounds0 (P := P) hρ (b := true) hp.2 g1
        obtain ⟨p0, p1, p2, p3, _⟩ := hp.2
        have en : ixV e es.length none = es.length := rfl
        rw [en] at p2 p3
        simp only [nVal, hd, hro]
        rw [hv]
        refine Yields.same (v := .slice (if cap = (ixV e 0 l).toNat then a else a.map (·.add ((ixV e 0 l).toNat * k))) ((ixV e es.length h).toNat - (ixV e 0 l).toNat) (cap - (ixV e 0 l).toNat)) ?_ ?_
        · simp [Instr.sliceAt, Instr.slice, run_underlying hu, hr, sizeOf, typeInfo, hi, hsz]
        · simp only [Rds, rd]
          intro lc hl
          have hl' : curOf s.own loc id r = some lc := hl
          rw [hcur] at hl'
          simp only [Option.some.injEq] at hl'
          subst hl'
          refine ⟨_, _, rfl, by omega, by omega, fun hn => ?_, fun hn => ?_, fun hz => ?_⟩
          · rcases g3 with ⟨_, _, _, hc0⟩ | ⟨b, hb1, rfl⟩
            · omega
            · split at hn <;> simp at hn
          · rcases g3 with ⟨rfl, _⟩ | ⟨b, hb1, rfl⟩
            · simp only [List.length_nil] at p2 hn; omega
            · refine ⟨b, hb1, ?_⟩
              rw [if_neg (by omega)]
              simp [add_lit]
          · refine ⟨es.length, ?_⟩
            rw [hh, hz]
            rcases g3 with ⟨rfl, _, rfl, rfl⟩ | ⟨b, hb1, rfl⟩
            · simp
            · simp [add_lit]
    · rename_i id r k bs i0 n0 hd
      obtain ⟨rfl, hro, hp⟩ := hp
      rw [hd] at hx
      obtain ⟨e0, et, es, he0, her, hob, hbound⟩ := rowsOf_vw rfl hro
      obtain ⟨e', i, hu, hi, hsz, _, _⟩ := tElem_some hp.1
      obtain ⟨hcur, a0, cap0, hh, g1, g2, g3⟩ := row_form S he0 her hob
      simp only [Rds, rd] at hx
      obtain ⟨a, cap, hv, q1, q2, q5, q3, q4⟩ := hx _ hcur
      have hr := run_sliceBounds0 (P := P) hρ (b := true) hp.2 q1
      obtain ⟨p0, p1, p2, p3, _⟩ := hp.2
      have en : ixV e n0 none = n0 := rfl
      rw [en] at p2 p3
      simp only [nVal, hd]
      rw [hv]
      refine Yields.same (v := .slice (if cap = (ixV e 0 l).toNat then a else a.map (·.add ((ixV e 0 l).toNat * k))) ((ixV e n0 h).toNat - (ixV e 0 l).toNat) (cap - (ixV e 0 l).toNat)) ?_ ?_
      · simp [Instr.sliceAt, Instr.slice, run_underlying hu, hr, sizeOf, typeInfo, hi, hsz]
      · simp only [Rds, rd]
        intro lc hl
        have hl' : curOf s.own loc id r = some lc := hl
        rw [hcur] at hl'
        simp only [Option.some.injEq] at hl'
        subst hl'
        refine ⟨_, _, rfl, by omega, by omega, fun hn => ?_, fun hn => ?_, fun hz => ?_⟩
        · have ha : a = none := by
            split at hn
            · exact hn
            · simpa using hn
          have := q5 ha
          omega
        · obtain ⟨b, hb1, rfl⟩ := q3 (by omega)
          refine ⟨b, hb1, ?_⟩
          rw [if_neg (by omega)]
          simp [add_lit, Nat.add_mul]
        · obtain ⟨n1, hh1⟩ := q4 (by omega)
          rw [hh] at hh1
          simp only [Value.slice.injEq] at hh1
          obtain ⟨rfl, _, rfl⟩ := hh1
          refine ⟨es.length, ?_⟩
          have z0 : (ixV e 0 l).toNat = 0 := by omega
          rw [hh, z0]
          rcases g3 with ⟨rfl, _, rfl, rfl⟩ | ⟨b, hb1, rfl⟩
          · simp
          · simp [add_lit]
    · rename_i str hd
      obtain ⟨ht, rfl, hsp⟩ := hp
      rw [hd] at hx
      simp only [Rds, rd] at hx
      have hu : P.underlying t = some .string := by
        unfold tStr at ht
        split at ht
        · assumption
        · simp at ht
      obtain ⟨mm, hr, k1, k2⟩ := run_sliceBounds (P := P) hρ (b := false) (cap := str.size) hsp (Nat.le_refl _)
      simp only [nVal, hd]
      rw [hx.1]
      refine Yields.same (v := .string (str.extract (ixV e 0 l).toNat (ixV e str.size h).toNat)) ?_ ?_
      · simp only [Option.map_none] at hr
        simp [Instr.sliceAt, Instr.slice, run_underlying hu, hr]
      · simp only [Rds, rd, true_and]
        have h2 := hx.2
        have : (str.extract (ixV e 0 l).toNat (ixV e str.size h).toNat).size ≤ str.size := by
          rw [ByteArray.size_extract]; omega
        omega
    · exact hp.elim
  case lookup t x i ok =>
    have hx := hρ x
    have hi := hρ i
    simp only [execOp]
    refine fin _ _ ?_
    split at hp
    · rename_i kt et ks vs ht hc
      obtain ⟨z, hz⟩ := Option.isSome_iff_exists.1 hp.2.2
      have := y_lookup (P := P) (ok := ok) S ht hx hc hi hp.1 hp.2.1 hz
      simpa only [nVal, ht, hc, hz, Option.getD_some] using this
    · exact hp.elim
  case call c =>
    obtain ⟨callee, args, ats⟩ := c
    cases callee <;> simp only at hp
    case builtin b =>
      cases b <;> simp only [bPre] at hp
      case min =>
        obtain ⟨al⟩ := args
        obtain ⟨tl⟩ := ats
        match al, hp with
        | [x, y], hp =>
          have hx := hρ x
          have hy := hρ y
          simp only [List.map_cons, List.map_nil] at hp
          simp only [nVal, List.map_cons, List.map_nil, bVal]
          simp only [execOp, resolve, Sem.run_bind, List.map_toArray, List.map_cons, List.map_nil, Sem.run_pure, Result.andThen_ok, invoke, builtin]
          refine fin' _ _ ?_
          split at hp
          · rename_i k a k' b ha hb
            rw [ha] at hx
            rw [hb] at hy
            simp only [Rds, rd] at hx hy
            subst hp
            rw [hx.1, hy.1]
            refine Yields.same (v := .int k (if b < a then b else a)) (by simp [Builtin.min_, Builtin.min2]) ?_
            simp only [Rds, rd, true_and]
            split
            · exact hy.2
            · exact hx.2
          · exact hp.elim
        | [], hp => simp at hp
        | [_], hp => simp at hp
        | _ :: _ :: _ :: _, hp => simp at hp
      case max =>
        obtain ⟨al⟩ := args
        obtain ⟨tl⟩ := ats
        match al, hp with
        | [x, y], hp =>
          have hx := hρ x
          have hy := hρ y
          simp only [List.map_cons, List.map_nil] at hp
          simp only [nVal, List.map_cons, List.map_nil, bVal]
          simp only [execOp, resolve, Sem.run_bind, List.map_toArray, List.map_cons, List.map_nil, Sem.run_pure, Result.andThen_ok, invoke, builtin]
          refine fin' _ _ ?_
          split at hp
          · rename_i k a k' b ha hb
            rw [ha] at hx
            rw [hb] at hy
            simp only [Rds, rd] at hx hy
            subst hp
            rw [hx.1, hy.1]
            refine Yields.same (v := .int k (if a < b then b else a)) (by simp [Builtin.max_, Builtin.max2]) ?_
            simp only [Rds, rd, true_and]
            split
            · exact hy.2
            · exact hx.2
          · exact hp.elim
        | [], hp => simp at hp
        | [_], hp => simp at hp
        | _ :: _ :: _ :: _, hp => simp at hp
      case len =>
        have hargs : ∀ x ∈ args.toList, Rds s loc M0 w (e x) (ρ x) := fun x _ => hρ x
        obtain ⟨al⟩ := args
        obtain ⟨tl⟩ := ats
        match al, tl, hp, hargs with
        | [x], [t], hp, hargs =>
          have hx := hρ x
          simp only [List.map_cons, List.map_nil] at hp
          simp only [nVal, List.map_cons, List.map_nil, bVal]
          simp only [execOp, resolve, Sem.run_bind, List.map_toArray, List.map_cons, List.map_nil, Sem.run_pure, Result.andThen_ok, invoke, builtin]
          refine fin' _ _ ?_
          split at hp
          · rename_i str hd
            rw [hd] at hx
            simp only [Rds, rd] at hx
            rw [hx.1]
            have hu : P.underlying t = some .string := by
              unfold tStr at hp
              split at hp
              · assumption
              · simp at hp
            have hsz := hx.2
            refine Yields.same (v := .int .i64 str.size) (by simp [Builtin.len_, run_underlying hu, goInt]) ?_
            simp only [Rds, rd, inR, true_and]; unfold maxLen at hsz; omega
          · rename_i hd
            rw [hd] at hx
            simp only [Rds, rd] at hx
            rw [hx]
            obtain ⟨y, hy⟩ := Option.isSome_iff_exists.1 hp
            obtain ⟨e, i, hu, _⟩ := tElem_some (k := y.1) (bs := y.2) hy
            refine Yields.same (v := .int .i64 0) (by simp [Builtin.len_, run_underlying hu, goInt]) ?_
            simp only [Rds, rd, inR, true_and]; omega
          · rename_i ks vs hd
            rw [hd] at hx
            exact y_lenMap (P := P) S hp.1 hx rfl hp.2
          · rename_i hd
            rw [hd] at hx
            have := y_lenMap (P := P) (ty := type) (ks := []) (vs := []) S hp hx rfl (by simp)
            simpa using this
          · rename_i id r hd
            rw [hd] at hx
            obtain ⟨h1, h2⟩ := hp
            cases hq : mapOf s.own (.omp id r) with
            | none => rw [hq] at h2; exact h2.elim
            | some y =>
              rw [hq] at h2
              exact y_lenMap (P := P) S h1 hx hq h2
          · rename_i d h1 h2 h3 h4 h5
            obtain ⟨y, hy⟩ := Option.isSome_iff_exists.1 hp.1
            have := y_len (P := P) (ty := type) S hp.2 hx (k := y.1) (bs := y.2.1) (es := y.2.2) hy
            cases hd : e x <;> rw [hd] at h1 h2 h3 h4 h5 hy <;> first | (exact (h1 _ rfl).elim) | (exact (h2 rfl).elim) | (exact (h3 _ _ rfl).elim) | (exact (h4 rfl).elim) | (exact (h5 _ _ rfl).elim) | (simp only [hy]; exact this)

end
end Go.Dm
end

section
/- The data machine, second make, part F: rules for statements; pure contracts. -/





set_option linter.unusedSimpArgs false
set_option linter.unusedVariables false
namespace Go.Dm

/-- No fence but the round in which one is. -/
def wd (ro : Option Nat) : Fence := { fn := fun _ => True, depth := none, alive := false, round := ro }
theorem calls_wd {P : Program} {f : FuncId} {args : Array Value} {w : World} {R : Ending → World → Prop} (ro : Option Nat) (n : Nat) (h : Calls P f args w R) : CallsIn (wd ro) n P f args w R := by
  have h := (callsIn_wide (n := n)).2 h
  cases ro with
  | none => exact h
  | some l => exact CallsIn.inRound l h

section
variable (P : Program) (B : Base)

def QQ (Q : Exit → DS → Prop) : Exit → Act → World → Prop := fun e a w => ∃ s loc, Q e s ∧ Rel B s a w loc

def DW (c : Code) (Q : Exit → DS → Prop) (s : DS) : Prop := ∀ a w loc, Rel B s a w loc → c.wpIn (wd B.ro) 0 P (QQ B Q) a w

def Dthen (K : DS → Prop) (Q : Exit → DS → Prop) : Exit → DS → Prop
  | .normal, s => K s
  | e, s => Q e s

def Dblock (id : Nat) (Q : Exit → DS → Prop) : Exit → DS → Prop
  | .exit id', s => if id' = id then Q .normal s else Q (.exit id') s
  | e, s => Q e s

def Sub (s s' : DS) : Prop := ∀ a w loc, Rel B s a w loc → ∃ loc', Rel B s' a w loc'
end

section
variable {P : Program} {B : Base} {Q : Exit → DS → Prop} {s s' : DS}

theorem DW_sub {c : Code} (h : Sub B s s') (hw : DW P B c Q s') : DW P B c Q s := fun a w loc R =>
  let ⟨loc', R'⟩ := h a w loc R; hw a w loc' R'

theorem DW_seq {x y : Code} (h : ∀ K : DS → Prop, (∀ s, DW P B y Q s → K s) → DW P B x (Dthen K Q) s) : DW P B (.seq x y) Q s := by
  intro a w loc R
  refine wpIn_seq (wpIn_mono (h (fun s => DW P B y Q s) (fun _ h => h) a w loc R) ?_)
  rintro e a' w' ⟨s', loc', hq, R'⟩
  cases e <;> first
    | exact hq a' w' loc' R'
    | exact ⟨s', loc', hq, R'⟩

theorem DW_skip (h : Q .normal s) : DW P B .skip Q s := fun a w loc R => wpIn_skip ⟨s, loc, h, R⟩
theorem DW_exit {id : Nat} (h : Q (.exit id) s) : DW P B (.exit id) Q s := fun a w loc R => wpIn_exit ⟨s, loc, h, R⟩
theorem DW_ret (h : Q .ret s) : DW P B .ret Q s := fun a w loc R => wpIn_ret ⟨s, loc, h, R⟩
theorem DW_label {l : Nat} (h : Q .normal s) : DW P B (.label l) Q s := fun a w loc R => wpIn_label ⟨s, loc, h, R⟩
theorem DW_block {id : Nat} {c : Code} (h : DW P B c (Dblock id Q) s) : DW P B (.block id c) Q s := by
  intro a w loc R
  refine wpIn_block (wpIn_mono (h a w loc R) ?_)
  rintro e a' w' ⟨s', loc', hq, R'⟩
  cases e <;> try exact ⟨s', loc', hq, R'⟩
  rename_i id'
  simp only [Dblock] at hq
  simp only [Exit.inBlock]
  split
  · rename_i h; rw [if_pos h] at hq; exact ⟨s', loc', hq, R'⟩
  · rename_i h; rw [if_neg h] at hq; exact ⟨s', loc', hq, R'⟩

theorem Rel.ev {a : Act} {w : World} {loc : Nat → Loc} (R : Rel B s a w loc) (x : Operand) : Rds s loc B.M0 w (ev s.slots x) (a.eval x) := rd_ev R.sl x

theorem DW_cond {c : Operand} {x y : Code} {b : Bool} (hc : ev s.slots c = .bool b) (ht : b = true → DW P B x Q s) (hf : b = false → DW P B y Q s) : DW P B (.cond c x y) Q s := by
  intro a w loc R
  have h := R.ev c
  rw [hc] at h
  simp only [Rds, rd] at h
  exact wpIn_cond_split h (fun hb => ht hb a w loc R) (fun hb => hf hb a w loc R)

/-- the loop's head once more, at a smaller measure -/
def Again (B : Base) {X : Type} (S : X → DS) (μ : X → Nat) (n : Nat) (s' : DS) : Prop := ∃ x', Sub B s' (S x') ∧ μ x' < n
theorem Again.mk {X : Type} {S : X → DS} {μ : X → Nat} {n : Nat} (x' : X) (h : Sub B s' (S x')) (hm : μ x' < n) : Again B S μ n s' := ⟨x', h, hm⟩

theorem DW_loop {c : Code} {X : Type} (S : X → DS) (μ : X → Nat) (x₀ : X) (h₀ : Sub B s (S x₀))
    (round : ∀ x, DW P B c (Dthen (Again B S μ (μ x)) Q) (S x)) : DW P B (.loop c) Q s := by
  intro a w loc R
  refine wpIn_loop_ghost (fun n a w => ∃ x loc, μ x = n ∧ Rel B (S x) a w loc) (μ x₀) ?_ ?_
  · obtain ⟨loc', R'⟩ := h₀ a w loc R
    exact ⟨x₀, loc', rfl, R'⟩
  · rintro n a w ⟨x, loc, rfl, R⟩
    refine wpIn_mono (round x a w loc R) ?_
    rintro e a' w' ⟨s', loc', hq, R'⟩
    cases e <;> try exact ⟨s', loc', hq, R'⟩
    obtain ⟨x', hs, hlt⟩ := hq
    obtain ⟨loc'', R''⟩ := hs a' w' loc' R'
    exact ⟨μ x', hlt, x', loc'', rfl, R''⟩

end

/-! ### Pure contracts -/

def Enters (P : Program) (f : FuncId) : Prop := ∀ args w, (callFunc f args).run P w = .ok (.enter f args) w

/-- Function f is called with these data: it hands back d; memory has only grown. -/
def DPure (P : Program) (f : FuncId) (args : List DVal) (d : DVal) : Prop :=
  Enters P f ∧ mx d = 0 ∧ ∀ (cur : Cur) (M : List Nat) (w : World) (vs : Array Value), (∀ b ∈ M, b < w.heap.size) → rdV cur M w.heap args vs.toList →
    Calls P f vs w fun e w' => ∃ v, e = .returned v ∧ Upd [] w w' ∧ rd cur M w'.heap d v

mutual
/-- What is known of a datum by itself: numbers fit their kinds, lengths their bounds. -/
def wfD : DVal → Prop
  | .int k n => inR k n
  | .str s => s.size ≤ maxLen
  | .ref cs => wfL cs
  | .sl _ bs es => es.length * bs ≤ 150000000000000 ∧ es.length ≤ maxLen ∧ wfR es
  | .mp ks vs => wfL ks ∧ wfL vs
  | .fn _ us cs => wfL us ∧ wfL cs
  | .ifc _ d => wfD d
  | .agg cs => wfL cs
  | .tup cs => wfL cs
  | _ => True
def wfL : List DVal → Prop
  | [] => True
  | d :: ds => wfD d ∧ wfL ds
def wfR : List (List DVal) → Prop
  | [] => True
  | cs :: es => wfL cs ∧ wfR es
end

section
variable {cur : Cur} {M : List Nat} {h : Array Obj}
mutual
theorem rd_wf : ∀ (d : DVal) (v : Value), rd cur M h d v → wfD d
  | .any, _, _ => by simp [wfD]
  | .undef, _, _ => by simp [wfD]
  | .sel _ _, _, _ => by simp [wfD]
  | .bool _, _, _ => by simp [wfD]
  | .int _ _, _, hr => by simp only [rd] at hr; simp only [wfD]; exact hr.2
  | .str _, _, hr => by simp only [rd] at hr; simp only [wfD]; exact hr.2
  | .nilp, _, _ => by simp [wfD]
  | .ref cs, v, hr => by
    simp only [rd] at hr
    obtain ⟨b, off, arr, ty, fz, _, _, _, h4⟩ := hr
    simp only [wfD]
    exact rdC_wf cs arr off h4
  | .bx _ _ _, _, _ => by simp [wfD]
  | .rx _ _ _ _ _, _, _ => by simp [wfD]
  | .nilsl, _, _ => by simp [wfD]
  | .esl, _, _ => by simp [wfD]
  | .sl k bs es, v, hr => by
    simp only [rd] at hr
    obtain ⟨a, cap, h1, h2, h2', h2'', h3⟩ := hr
    simp only [wfD]
    refine ⟨h2'', Nat.le_trans h2 h2', ?_⟩
    rcases h3 with ⟨rfl, _⟩ | ⟨b, off, arr, ty, fz, g1, g2, g3, g4⟩
    · simp [wfR]
    · exact rdR_wf k es arr off g4
  | .osl _ _, _, _ => by simp [wfD]
  | .vw _ _ _ _ _ _, _, _ => by simp [wfD]
  | .nilmp, _, _ => by simp [wfD]
  | .mp ks vs, v, hr => by
    simp only [rd] at hr
    obtain ⟨_, es, _, _, _, _, _, h5, h6⟩ := hr
    simp only [wfD]
    exact ⟨rdV_wf ks _ h5, rdV_wf vs _ h6⟩
  | .omp _ _, _, _ => by simp [wfD]
  | .pk _ _, _, _ => by simp [wfD]
  | .nilfn, _, _ => by simp [wfD]
  | .fn f us cs, v, hr => by
    simp only [rd] at hr
    obtain ⟨us', cs', h1, h2, h3⟩ := hr
    simp only [wfD]
    exact ⟨rdV_wf us _ h2, rdV_wf cs _ h3⟩
  | .nilifc, _, _ => by simp [wfD]
  | .ifc t d, v, hr => by
    simp only [rd] at hr
    obtain ⟨u, h1, h2⟩ := hr
    simp only [wfD]
    exact rd_wf d u h2
  | .agg cs, v, hr => by
    simp only [rd] at hr
    obtain ⟨us, h1, h2⟩ := hr
    simp only [wfD]
    exact rdV_wf cs _ h2
  | .tup cs, v, hr => by
    simp only [rd] at hr
    obtain ⟨us, h1, h2⟩ := hr
    simp only [wfD]
    exact rdV_wf cs _ h2
theorem rdC_wf : ∀ (ds : List DVal) (arr : Array Value) (o : Nat), rdC cur M h ds arr o → wfL ds
  | [], _, _, _ => by simp [wfL]
  | d :: ds, arr, o, hr => by
    simp only [rdC] at hr
    obtain ⟨⟨v, _, _, h2⟩, h3⟩ := hr
    simp only [wfL]
    exact ⟨rd_wf d v h2, rdC_wf ds arr _ h3⟩
theorem rdR_wf : ∀ (k : Nat) (es : List (List DVal)) (arr : Array Value) (o : Nat), rdR cur M h k es arr o → wfR es
  | _, [], _, _, _ => by simp [wfR]
  | k, cs :: es, arr, o, hr => by
    simp only [rdR] at hr
    obtain ⟨_, h2, h3⟩ := hr
    simp only [wfR]
    exact ⟨rdC_wf cs arr o h2, rdR_wf k es arr _ h3⟩
theorem rdV_wf : ∀ (ds : List DVal) (vs : List Value), rdV cur M h ds vs → wfL ds
  | [], _, _ => by simp [wfL]
  | d :: ds, vs, hr => by
    simp only [rdV] at hr
    obtain ⟨v, r, _, h2, h3⟩ := hr
    simp only [wfL]
    exact ⟨rd_wf d v h2, rdV_wf ds r h3⟩
end
end

def isE : DVal → Bool
  | .sl _ _ [] => true
  | _ => false
/-- less is said: of an empty slice, not whether it is nil -/
def wk1 (d d' : DVal) : Prop := d = d' ∨ ((d = .nilsl ∨ d = .esl) ∧ isE d' = true)
def wkL : List DVal → List DVal → Prop
  | [], [] => True
  | d :: ds, e :: es => wk1 d e ∧ wkL ds es
  | _, _ => False
def wk : DVal → DVal → Prop
  | .tup a, .tup b => wkL a b
  | .agg a, .agg b => wkL a b
  | d, d' => wk1 d d'

section
variable {cur : Cur} {M : List Nat} {h : Array Obj}
theorem rd_wk1 {d d' : DVal} {v : Value} (hw : wk1 d d') (hr : rd cur M h d v) : rd cur M h d' v := by
  rcases hw with rfl | ⟨hd, he⟩
  · exact hr
  · unfold isE at he
    split at he
    · rcases hd with rfl | rfl
      · simp only [rd] at hr ⊢
        subst hr
        exact ⟨none, 0, rfl, by simp, by unfold maxLen; omega, by simp, .inl ⟨by simp, fun _ => rfl⟩⟩
      · simp only [rd] at hr ⊢
        obtain ⟨ad, cap, rfl, hc⟩ := hr
        exact ⟨some ad, cap, rfl, by simp, hc, by simp, .inl ⟨by simp, by simp⟩⟩
    · simp at he
theorem rd_wkL : ∀ {ds es : List DVal} {vs : List Value}, wkL ds es → rdV cur M h ds vs → rdV cur M h es vs
  | [], [], _, _, hr => hr
  | d :: ds, e :: es, vs, hw, hr => by
    simp only [wkL] at hw
    simp only [rdV] at hr ⊢
    obtain ⟨v, r, rfl, h1, h2⟩ := hr
    exact ⟨v, r, rfl, rd_wk1 hw.1 h1, rd_wkL hw.2 h2⟩
theorem rd_wk {d d' : DVal} {v : Value} (hw : wk d d') (hr : rd cur M h d v) : rd cur M h d' v := by
  unfold wk at hw
  split at hw
  · simp only [rd] at hr ⊢
    obtain ⟨us, rfl, h1⟩ := hr
    exact ⟨us, rfl, rd_wkL hw h1⟩
  · simp only [rd] at hr ⊢
    obtain ⟨us, rfl, h1⟩ := hr
    exact ⟨us, rfl, rd_wkL hw h1⟩
  · exact rd_wk1 hw hr
end


def wkA : List DVal → List DVal → Prop
  | [], [] => True
  | d :: ds, e :: es => wk d e ∧ wkA ds es
  | _, _ => False
theorem rd_wkA {cur : Cur} {M : List Nat} {h : Array Obj} : ∀ {ds es : List DVal} {vs : List Value}, wkA ds es → rdV cur M h ds vs → rdV cur M h es vs
  | [], [], _, _, hr => hr
  | [], _ :: _, _, hw, _ => hw.elim
  | _ :: _, [], _, hw, _ => hw.elim
  | d :: ds, e :: es, vs, hw, hr => by
    simp only [rdV] at hr ⊢
    obtain ⟨v, r, rfl, h1, h2⟩ := hr
    exact ⟨v, r, rfl, rd_wk hw.1 h1, rd_wkA hw.2 h2⟩

/-- What comes behind, by a name: so that nothing looks into it ahead of its time. -/
structure Cont where
  f : DS → Prop
structure ContV where
  f : DVal → Prop
structure ContE where
  f : DVal → List Ent → Prop

/-- A call of a pure function, ahead of K. -/
def callP (P : Program) (g : FuncId) (args : List DVal) (K : ContV) : Prop := ∃ args' d, wkA args args' ∧ DPure P g args' d ∧ K.f d
theorem wk_refl (d : DVal) : wk d d := by
  have h1 : ∀ d, wk1 d d := fun d => .inl rfl
  have hL : ∀ l, wkL l l := by
    intro l
    induction l with
    | nil => trivial
    | cons d l ih => exact ⟨h1 d, ih⟩
  cases d <;> first
    | exact hL _
    | exact h1 _
theorem wkA_refl : ∀ l, wkA l l
  | [] => trivial
  | d :: l => ⟨wk_refl d, wkA_refl l⟩
theorem callP_mk {P : Program} {g : FuncId} {args : List DVal} {d : DVal} {K : ContV} (h : DPure P g args d) (hk : K.f d) : callP P g args K := ⟨args, d, wkA_refl _, h, hk⟩
theorem callP_wk {P : Program} {g : FuncId} {args args' : List DVal} {d : DVal} {K : ContV} (h : DPure P g args' d) (hw : wkA args args') (hk : K.f d) : callP P g args K := ⟨args', d, hw, h, hk⟩
theorem callP_out {P : Program} {g : FuncId} {args : List DVal} {K : ContV} (h : callP P g args K) : ∃ d, DPure P g args d ∧ K.f d := by
  obtain ⟨args', d, hw, h, hk⟩ := h
  exact ⟨d, ⟨h.1, h.2.1, fun cur M w vs hM hr => h.2.2 cur M w vs hM (rd_wkA hw hr)⟩, hk⟩

/-! ### Regions in the text's order -/

def gB : DVal → Bool → Bool
  | .bool t, true => t
  | .bool t, false => !t
  | .sel c (.bool t), true => c && t
  | .sel c (.bool t), false => c && !t
  | _, _ => false
def gOK : DVal → Bool
  | .bool _ => true
  | .sel _ (.bool _) => true
  | .undef => true
  | _ => false
/-- what a guarded operation's operands are where its guard holds -/
def strip : DVal → DVal
  | .sel _ d => d
  | d => d
def okG (c : Bool) : DVal → Prop
  | .sel c' _ => c = true → c' = true
  | _ => True
def okL (c : Bool) (e : Operand → DVal) : List Operand → Prop
  | [] => True
  | x :: r => okG c (e x) ∧ okL c e r
/-- an operation's operands are there, where the guard holds; of the two that a pick has, the one that it takes -/
def okOp (c : Bool) (e : Operand → DVal) (op : Op) : Prop := match op with
  | .pick x a b => okG c (e x) ∧ ∀ t, strip (e x) = .bool t → (t = true → okG c (e a)) ∧ (t = false → okG c (e b))
  | op => okL c e op.operands.toList
def stripE (l : List (Nat × DVal)) (x : Operand) : DVal := strip (ev l x)

def dstOK (nt : Nat) : Option Nat → Bool
  | none => true
  | some i => decide (i < nt)

/-- what is called, with which arguments -/
def callee (e : Operand → DVal) (c : Call) : Option (FuncId × List DVal) :=
  match c.callee with
  | .value f => match e f with
    | .fn (.func g) us cs => some (g, us ++ c.args.toList.map e ++ cs)
    | _ => none
  | _ => none

section
variable (P : Program) (nt : Nat)

/-- what comes behind a call -/
def kD (K : Cont) (s : DS) (dst : Option Nat) : ContV := ⟨fun d => K.f ⟨putS s.slots dst d, s.own⟩⟩
def kG (K : Cont) (c : Bool) (s : DS) (dst : Option Nat) : ContV := ⟨fun d => K.f ⟨putS s.slots dst (.sel c d), s.own⟩⟩
theorem kD_f (K : Cont) (s : DS) (dst : Option Nat) (d : DVal) : (kD K s dst).f d = K.f ⟨putS s.slots dst d, s.own⟩ := id rfl
theorem kG_f (K : Cont) (c : Bool) (s : DS) (dst : Option Nat) (d : DVal) : (kG K c s dst).f d = K.f ⟨putS s.slots dst (.sel c d), s.own⟩ := id rfl
/-- a call under a guard: made, or passed over -/
def callG (c : Bool) (g : FuncId) (args : List DVal) (K : ContV) : Prop := match c with
  | true => callP P g args K
  | false => K.f .any

/-- The same under a guard c. -/
def dOpG (c : Bool) (o : Oper) (s : DS) (K : Cont) : Prop :=
  dstOK nt o.dst = true ∧ okOp c (ev s.slots) o.op ∧ match o.op with
    | .call cl => match callee (stripE s.slots) cl with
      | some (g, args) => callG P c g args (kG K c s o.dst)
      | none => (c = true → nPre P s.own (stripE s.slots) o.op) ∧ K.f ⟨putS s.slots o.dst (.sel c (nVal P s.own (stripE s.slots) o.op)), s.own⟩
    | op => (c = true → nPre P s.own (stripE s.slots) op) ∧ K.f ⟨putS s.slots o.dst (.sel c (nVal P s.own (stripE s.slots) op)), s.own⟩

def gSlot (ops : Array Oper) (s : DS) (j : Nat) : DVal := match (ops[j]?).bind (·.dst) with | some t => getS s.slots t | none => .any

end

section
variable {P : Program} {B : Base} {s : DS} {a : Act} {w : World} {loc : Nat → Loc}

theorem callG_out {c : Bool} {g : FuncId} {args : List DVal} {K : ContV} (h : callG P c g args K) : ∃ d, (c = true → DPure P g args d) ∧ K.f d := by
  cases c
  · exact ⟨.any, (fun h => by simp at h), h⟩
  · obtain ⟨d, h1, h2⟩ := callP_out h; exact ⟨d, fun _ => h1, h2⟩

theorem dst_lt {o : Oper} (h : dstOK B.nt o.dst = true) : ∀ i, o.dst = some i → i < B.nt := by
  intro i hi
  rw [hi] at h
  simpa [dstOK] using h

theorem Rel.lt (R : Rel B s a w loc) : ∀ b ∈ hm s loc B.M0, b < w.heap.size := R.st.lt

theorem run_call {o : Oper} {c : Call} (ho : o.op = .call c) {ρ : Operand → Value} {M0 : List Nat} {e : Operand → DVal} (hρ : ∀ x ∈ c.operands, Rds s loc M0 w (e x) (ρ x)) {g : FuncId} {args : List DVal} (hc : callee e c = some (g, args)) (he : Enters P g) :
    ∃ vs : Array Value, (execOp ρ o).run P w = .ok (.enter g vs) w ∧ rdV (cu s loc) (hm s loc M0) w.heap args vs.toList := by
  obtain ⟨dst, op, type, pos, after, guard⟩ := o
  simp only at ho
  subst ho
  obtain ⟨cal, ars, ats⟩ := c
  unfold callee at hc
  cases cal with
  | value f =>
    simp only at hc
    split at hc
    · rename_i g' us cs hf
      simp only [Option.some.injEq, Prod.mk.injEq] at hc
      obtain ⟨rfl, rfl⟩ := hc
      have hx := hρ f (by simp [Call.operands])
      rw [hf] at hx
      simp only [Rds, rd] at hx
      obtain ⟨us', cs', hv, h1, h2⟩ := hx
      have key : ∀ l : List Operand, (∀ x ∈ l, Rds s loc M0 w (e x) (ρ x)) → rdV (cu s loc) (hm s loc M0) w.heap (l.map e) (l.map ρ) := by
        intro l
        induction l with
        | nil => intro _; simp [rdV]
        | cons x l ih => intro hl; simp only [List.map_cons, rdV]; exact ⟨_, _, rfl, hl x List.mem_cons_self, ih fun y hy => hl y (List.mem_cons_of_mem _ hy)⟩
      refine ⟨us' ++ ars.map ρ ++ cs', ?_, ?_⟩
      · simp only [execOp, resolve, hv, Deferred.ofValue, Sem.run_bind, Sem.run_pure, Result.andThen_ok, invoke]
        exact he _ _
      · simp only [Array.toList_append, Array.toList_map]
        exact rdV_append _ _ _ _ (rdV_append _ _ _ _ h1 (key _ fun x hx => hρ x (by simp [Call.operands]; right; simpa using hx))) h2
    · simp at hc
  | invoke r m => simp at hc
  | builtin b => simp at hc

theorem n_congr0 {own : List Ent} {e e' : Operand → DVal} (op : Op) (h : ∀ x ∈ op.operands, e x = e' x) : (nPre P own e op ↔ nPre P own e' op) ∧ nVal P own e op = nVal P own e' op := by
  have parts : ∀ (ps : Array (Nat × Operand)), (∀ x ∈ (ps.toList.map (·.2)).toArray, e x = e' x) → ∀ p ∈ ps.toList, e p.2 = e' p.2 := by
    intro ps h p hp
    exact h p.2 (by simpa using ⟨p.1, by simpa using hp⟩)
  cases op <;> simp only [Op.operands] at h <;> simp only [nPre, nVal]
  case move x => exact ⟨trivial, h x (by simp)⟩
  case assign x => exact ⟨trivial, h x (by simp)⟩
  case pick c a b =>
    have h1 := h c (by simp); have h2 := h a (by simp); have h3 := h b (by simp)
    simp only [h1, h2, h3, and_self]
  case build t ps =>
    have hp := parts ps h
    have e1 : (ps.toList.map fun p => (p.1, e p.2)) = ps.toList.map fun p => (p.1, e' p.2) := List.map_congr_left fun p hm => by rw [hp p hm]
    have e2 : (ps.toList.all fun p => plainD own (e p.2)) = ps.toList.all fun p => plainD own (e' p.2) := by
      rw [Bool.eq_iff_iff, List.all_eq_true, List.all_eq_true]
      constructor <;> intro hq p hm <;> have := hq p hm
      · rw [← hp p hm]; exact this
      · rw [hp p hm]; exact this
    simp only [e1, e2, and_self]
  case buildSlice t n ps =>
    have hp := parts ps h
    have e1 : (ps.toList.map fun p => cellsD (e p.2)) = ps.toList.map fun p => cellsD (e' p.2) := List.map_congr_left fun p hm => by rw [hp p hm]
    have e2 : ∀ k, (ps.toList.all fun p => plainD own (e p.2) && (cellsD (e p.2)).length == k) = ps.toList.all fun p => plainD own (e' p.2) && (cellsD (e' p.2)).length == k := by
      intro k
      rw [Bool.eq_iff_iff, List.all_eq_true, List.all_eq_true]
      constructor <;> intro hq p hm <;> have := hq p hm
      · rw [← hp p hm]; exact this
      · rw [hp p hm]; exact this
    simp only [e1, e2, and_self]
  case makeFunc f us cs =>
    have e1 : us.toList.map e = us.toList.map e' := List.map_congr_left fun x hx => h x (by simp; left; simpa using hx)
    have e2 : cs.toList.map e = cs.toList.map e' := List.map_congr_left fun x hx => h x (by simp; right; simpa using hx)
    simp only [e1, e2, and_self]
  case call c =>
    have e1 : c.args.toList.map e = c.args.toList.map e' := List.map_congr_left fun x hx => h x (by simp [Call.operands]; right; simpa using hx)
    cases c.callee <;> simp only [e1, and_self]
  case slice t x l h' m =>
    have hx := h x (by simp)
    have hi : ∀ (d : Int) (o : Option Operand), (o = l ∨ o = h' ∨ o = m) → ixV e d o = ixV e' d o := by
      intro d o ho
      cases o with
      | none => rfl
      | some y =>
        have : e y = e' y := h y (by
          simp only [Array.mem_append]
          rcases ho with ho | ho | ho <;> subst ho <;> simp)
        simp only [ixV, this]
    have h1 : ∀ d, ixV e d l = ixV e' d l := fun d => hi d l (by simp)
    have h2 : ∀ d, ixV e d h' = ixV e' d h' := fun d => hi d h' (by simp)
    have h3 : ∀ d, ixV e d m = ixV e' d m := fun d => hi d m (by simp)
    have h4 : ∀ n, sliceP e n l h' m ↔ sliceP e' n l h' m := fun n => by simp only [sliceP, h1, h2, h3]
    have h5 : ∀ n, sliceP e n l h' none ↔ sliceP e' n l h' none := fun n => by simp only [sliceP, h1, h2, show ∀ d, ixV e d none = ixV e' d none from fun _ => rfl]
    simp only [hx, h1, h2, h4, h5, and_self]
  all_goals simp_all

theorem neu_wp {o : Oper} {e : Operand → DVal} {d : DVal} {K : DS → Prop} {next : Act → World → Prop} {Q : Exit → Act → World → Prop} (R : Rel B s a w loc) (hd : dstOK B.nt o.dst = true) (he : ∀ x ∈ o.op.operands, Rds s loc B.M0 w (e x) (a.eval x)) (hp : nPre P s.own e o.op)
    (hk : K ⟨putS s.slots o.dst d, s.own⟩) (hdv : ∀ (w' : World) (v : Value), rd (cu s loc) (hm s loc B.M0) w'.heap (nVal P s.own e o.op) v → rd (cu s loc) (hm s loc B.M0) w'.heap d v) (hn : ∀ s' a' w' loc', K s' → Rel B s' a' w' loc' → next a' w') : o.wpIn (wd B.ro) 0 P a w next Q := by
  classical
  have hc := n_congr0 (P := P) (own := s.own) (e := e) (e' := fun x => if x ∈ o.op.operands then e x else .any) o.op (fun x hx => by simp [hx])
  obtain ⟨v, w', h1, h2, h3⟩ := neu_sound (P := P) (ρ := a.eval) (M0 := B.M0) (o := o) (e := fun x => if x ∈ o.op.operands then e x else .any) R.st (fun x => by
    by_cases hx : x ∈ o.op.operands
    · simp only [if_pos hx]; exact he x hx
    · simp only [if_neg hx, Rds, rd]) (hc.1.1 hp)
  rw [← hc.2] at h3
  refine ⟨fun _ _ => trivial, ?_⟩
  rw [Oper.semAt_eq _ _ _ (fun c hc => by rw [hc] at hp; simp only [nPre] at hp), h1, Oper.uponIn_value]
  exact hn _ _ _ loc hk (R.put (dst_lt hd) h2 (hdv _ _ h3))

theorem call_wp {o : Oper} {c : Call} {g : FuncId} {args : List DVal} {e : Operand → DVal} {d d' : DVal} {K : DS → Prop} {next : Act → World → Prop} {Q : Exit → Act → World → Prop} (R : Rel B s a w loc) (hd : dstOK B.nt o.dst = true) (ho : o.op = .call c) (he : ∀ x ∈ o.op.operands, Rds s loc B.M0 w (e x) (a.eval x))
    (hc : callee e c = some (g, args)) (hp : DPure P g args d) (hk : wfD d → K ⟨putS s.slots o.dst d', s.own⟩) (hdv : ∀ (w' : World) (v : Value), rd (cu s loc) (hm s loc B.M0) w'.heap d v → rd (cu s loc) (hm s loc B.M0) w'.heap d' v) (hn : ∀ s' a' w' loc', K s' → Rel B s' a' w' loc' → next a' w') : o.wpIn (wd B.ro) 0 P a w next Q := by
  obtain ⟨vs, h1, h2⟩ := run_call (P := P) (ρ := a.eval) (M0 := B.M0) ho (fun x hx => he x (by rw [ho]; exact hx)) hc hp.1
  refine ⟨fun _ _ => trivial, ?_⟩
  rw [Oper.semAt_eq _ _ _ (fun c' hc' => by rw [ho] at hc'; cases hc'), h1, Oper.uponIn_enter]
  refine ⟨fun h => by simp [wd] at h, calls_wd B.ro _ ?_⟩
  refine (hp.2.2 (cu s loc) (hm s loc B.M0) w vs R.lt h2).mono ?_
  rintro e w' ⟨v, rfl, hu, hr⟩
  exact hn _ _ _ loc (hk (rd_wf _ _ hr)) (R.put (dst_lt hd) hu (hdv _ _ hr))

theorem okL_ok {l : List (Nat × DVal)} {ρ : Operand → Value} {M0 : List Nat} (hρ : ∀ x, Rds s loc M0 w (ev l x) (ρ x)) : ∀ xs : List Operand, okL true (ev l) xs → ∀ x ∈ xs, Rds s loc M0 w (stripE l x) (ρ x)
  | [], _, x, hx => by cases hx
  | y :: ys, h, x, hx => by
    simp only [okL] at h
    rcases List.mem_cons.1 hx with rfl | hx
    · have := hρ x
      unfold stripE
      cases hq : ev l x <;> rw [hq] at this h <;> simp only [strip] <;> try exact this
      simp only [okG] at h
      simp only [Rds, rd] at this
      exact this.1 (h.1 trivial)
    · exact okL_ok hρ ys h.2 x hx

theorem pickV_any1 (x : DVal) : pickV true x .any = x := by
  cases x <;> try rfl
  rename_i c d
  cases d <;> rfl
theorem pickV_any2 (y : DVal) : pickV false .any y = y := by
  cases y <;> rfl
theorem rd_pickV {cur : Cur} {M : List Nat} {h : Array Obj} {t : Bool} {x y : DVal} {v : Value} (hok : pickOK t x y) (hv : rd cur M h (if t then x else y) v) : rd cur M h (pickV t x y) v := by
  unfold pickV
  split
  · cases t <;> exact hv
  · cases t
    · simp only [pickOK] at hok
      simp only [Bool.false_eq_true, if_false, rd] at hv ⊢
      exact hv.1 (hok trivial)
    · exact hv
  · cases t
    · exact hv
    · simp only [pickOK] at hok
      simp only [if_true, rd] at hv ⊢
      exact hv.1 (hok trivial)
  · cases t <;> exact hv

theorem okG_ok {l : List (Nat × DVal)} {ρ : Operand → Value} {M0 : List Nat} {x : Operand} (hρ : Rds s loc M0 w (ev l x) (ρ x)) (h : okG true (ev l x)) : Rds s loc M0 w (stripE l x) (ρ x) := by
  unfold stripE
  cases hq : ev l x <;> rw [hq] at hρ h <;> simp only [strip] <;> try exact hρ
  simp only [okG] at h
  simp only [Rds, rd] at hρ
  exact hρ.1 (h trivial)

/-- under a guard that holds: which data the operands may be taken to have -/
theorem okOp_ok {l : List (Nat × DVal)} {ρ : Operand → Value} {M0 : List Nat} {op : Op} {own : List Ent} (hρ : ∀ x, Rds s loc M0 w (ev l x) (ρ x)) (hok : okOp true (ev l) op) (hp : nPre P own (stripE l) op) :
    ∃ e' : Operand → DVal, (∀ x ∈ op.operands, Rds s loc M0 w (e' x) (ρ x)) ∧ nPre P own e' op ∧ ∀ cur M h v, rd cur M h (nVal P own e' op) v → rd cur M h (nVal P own (stripE l) op) v := by
  classical
  by_cases hpk : ∃ x a b, op = .pick x a b
  · obtain ⟨x, a, b, rfl⟩ := hpk
    simp only [okOp] at hok
    obtain ⟨h1, h2⟩ := hok
    simp only [nPre] at hp
    cases hx : stripE l x <;> rw [hx] at hp <;> try exact hp.elim
    rename_i t
    have h2 := h2 t hx
    refine ⟨fun y => if okG true (ev l y) then stripE l y else .any, ?_, ?_, ?_⟩
    · intro y _
      simp only
      split
      · rename_i hy; exact okG_ok (hρ y) hy
      · simp only [Rds, rd]
    · simp only [nPre, if_pos h1, hx]
      cases t
      · rw [if_pos (h2.2 rfl)]
        split
        · exact hp
        · cases stripE l b <;> simp [pickOK]
      · rw [if_pos (h2.1 rfl)]
        split
        · exact hp
        · cases hsa : stripE l a <;> simp only [pickOK]
    · intro cur M h v
      simp only [nVal, if_pos h1, hx]
      cases t
      · rw [if_pos (h2.2 rfl)]
        split
        · exact id
        · rw [pickV_any2]
          exact fun hv => rd_pickV hp hv
      · rw [if_pos (h2.1 rfl)]
        split
        · exact id
        · rw [pickV_any1]
          exact fun hv => rd_pickV hp hv
  · have hok' : okL true (ev l) op.operands.toList := by
      unfold okOp at hok
      split at hok
      · exact absurd ⟨_, _, _, rfl⟩ hpk
      · exact hok
    exact ⟨stripE l, fun x hx => okL_ok hρ _ hok' x (by simpa using hx), hp, fun _ _ _ _ h => h⟩

/-- what a guard's slot says -/
theorem guard_ok {ops : Array Oper} {j : Nat} {want : Bool} (R : Rel B s a w loc) (hg : gOK (gSlot ops s j) = true) : (yielded ops a.tmps j == some want) = gB (gSlot ops s j) want := by
  unfold gSlot at hg ⊢
  cases ht : (ops[j]?).bind (·.dst) with
  | none => simp [ht, gOK] at hg
  | some t =>
    simp only [ht] at hg ⊢
    have hs := R.sl t
    have hy : yielded ops a.tmps j = match a.tmps[t]? with | some (.bool b) => some b | _ => none := by
      unfold yielded
      rw [ht]
      rfl
    have hnone : a.tmps.getD t Go.undef = Go.undef → yielded ops a.tmps j = none := by
      intro hs
      rw [hy]
      cases hq : a.tmps[t]? with
      | none => rfl
      | some v =>
        simp only [Array.getD_eq_getD_getElem?, hq, Option.getD_some] at hs
        subst hs; rfl
    have hsome : ∀ b, a.tmps.getD t Go.undef = .bool b → yielded ops a.tmps j = some b := by
      intro b hs
      rw [hy]
      cases hq : a.tmps[t]? with
      | none => simp [Array.getD_eq_getD_getElem?, hq, Go.undef] at hs
      | some v =>
        simp only [Array.getD_eq_getD_getElem?, hq, Option.getD_some] at hs
        subst hs; rfl
    cases hd : getS s.slots t <;> rw [hd] at hg hs <;> try (simp [gOK] at hg; done)
    · simp only [rd] at hs
      rw [hnone hs]; cases want <;> rfl
    · rename_i c d
      cases d <;> try (simp [gOK] at hg; done)
      rename_i b
      simp only [rd] at hs
      cases c
      · rw [hnone (hs.2 rfl)]; cases want <;> rfl
      · rw [hsome b (hs.1 rfl)]; cases want <;> cases b <;> rfl
    · rename_i b
      simp only [rd] at hs
      rw [hsome b hs]; cases want <;> cases b <;> rfl

end
end Go.Dm
end

section
/- The data machine, second make, part G: regions that draw their order, all of whose operations are neutral: the text's order serves for all. -/


set_option linter.unusedSimpArgs false
set_option linter.unusedVariables false
namespace Go.Dm

section
variable {P : Program} {own : List Ent} {e e' : Operand → DVal}

theorem callee_congr {c : Call} (h : ∀ x ∈ c.operands, e x = e' x) : callee e c = callee e' c := by
  unfold callee
  have hargs : c.args.toList.map e = c.args.toList.map e' := List.map_congr_left fun x hx => h x (by simp [Call.operands]; right; simpa using hx)
  cases hc : c.callee with
  | value f => have hf : e f = e' f := h f (by simp [Call.operands, hc]); simp only [hf, hargs]
  | invoke r m => rfl
  | builtin b => rfl

theorem okOp_congr {c : Bool} {op : Op} (h : ∀ x ∈ op.operands, e x = e' x) (hk : okOp c e op) : okOp c e' op := by
  have gen : ∀ xs : List Operand, (∀ x ∈ xs, e x = e' x) → okL c e xs → okL c e' xs := by
    intro xs
    induction xs with
    | nil => intro _ _; trivial
    | cons x xs ih =>
      intro hx hq
      simp only [okL] at hq ⊢
      exact ⟨by rw [← hx x List.mem_cons_self]; exact hq.1, ih (fun y hy => hx y (List.mem_cons_of_mem _ hy)) hq.2⟩
  unfold okOp at hk ⊢
  split at hk
  · rename_i x a b
    simp only [Op.operands] at h
    rw [h x (by simp), h a (by simp), h b (by simp)] at hk
    exact hk
  · exact gen _ (fun x hx => h x (by simpa using hx)) hk

end

/-- masks of ancestors -/
def maskOf (o : Oper) (acc : List Nat) : Nat := o.after.toList.foldl (fun s e => if Region.binds .any e then s ||| 2 ^ e.on ||| acc.getD e.on 0 else s) 0
def masks : List Oper → List Nat → List Nat
  | [], acc => acc
  | o :: r, acc => masks r (acc ++ [maskOf o acc])

def drawOK (ops : Array Oper) : Bool :=
  let m := masks ops.toList []
  let zs := ops.toList.zipIdx
  (zs.all fun p => zs.all fun q => p.1.dst == none || p.1.dst != q.1.dst || p.2 == q.2) &&
  (zs.all fun p => p.1.after.toList.all fun e => !Region.binds .any e || decide (e.on < p.2)) &&
  zs.all fun p => (p.1.looksAt ops).all fun t => zs.all fun q => q.1.dst != some t || (decide (q.2 < p.2) && (m.getD p.2 0).testBit q.2) || (decide (p.2 < q.2) && (m.getD q.2 0).testBit p.2)

structure DrawSpec (ops : Array Oper) : Prop where
  one : ∀ (k k' : Nat) (o o' : Oper) (t : Nat), ops[k]? = some o → ops[k']? = some o' → o.dst = some t → o'.dst = some t → k = k'
  acy : ∀ (k : Nat) (o : Oper), ops[k]? = some o → ∀ e ∈ o.after, Region.binds .any e = true → e.on < k
  ord : ∀ (j : Nat) (o : Oper) (t : Nat), ops[j]? = some o → t ∈ o.looksAt ops → ∀ (k : Nat) (o' : Oper), ops[k]? = some o' → o'.dst = some t →
    (k < j ∧ ((masks ops.toList []).getD j 0).testBit k = true) ∨ (j < k ∧ ((masks ops.toList []).getD k 0).testBit j = true)

theorem drawOK_spec {ops : Array Oper} (h : drawOK ops = true) : DrawSpec ops := by
  unfold drawOK at h
  simp only [Bool.and_eq_true, List.all_eq_true] at h
  obtain ⟨⟨h1, h2⟩, h3⟩ := h
  have mem : ∀ (k : Nat) (o : Oper), ops[k]? = some o → (o, k) ∈ ops.toList.zipIdx := by
    intro k o hk
    rw [List.mem_zipIdx_iff_getElem?]
    simpa using hk
  refine ⟨?_, ?_, ?_⟩
  · intro k k' o o' t hk hk' ht ht'
    have := h1 (o, k) (mem k o hk) (o', k') (mem k' o' hk')
    simpa [ht, ht'] using this
  · intro k o hk e he hb
    have := h2 (o, k) (mem k o hk) e (by simpa using he)
    simpa [hb] using this
  · intro j o t hj ht k o' hk hd
    have := h3 (o, j) (mem j o hj) t ht (o', k) (mem k o' hk)
    simpa [hd] using this

theorem maskOf_bit (o : Oper) (acc : List Nat) (j : Nat) (h : (maskOf o acc).testBit j = true) : ∃ e ∈ o.after.toList, Region.binds .any e = true ∧ (j = e.on ∨ (acc.getD e.on 0).testBit j = true) := by
  unfold maskOf at h
  have key : ∀ (l : List Edge) (s : Nat), (l.foldl (fun s e => if Region.binds .any e then s ||| 2 ^ e.on ||| acc.getD e.on 0 else s) s).testBit j = true → s.testBit j = true ∨ ∃ e ∈ l, Region.binds .any e = true ∧ (j = e.on ∨ (acc.getD e.on 0).testBit j = true) := by
    intro l
    induction l with
    | nil => intro s hs; exact .inl hs
    | cons e l ih =>
      intro s hs
      simp only [List.foldl_cons] at hs
      rcases ih _ hs with h1 | ⟨e', he', h2⟩
      · split at h1
        · rename_i hb
          rw [Nat.testBit_or, Nat.testBit_or, Bool.or_eq_true, Bool.or_eq_true] at h1
          rcases h1 with (h1 | h1) | h1
          · exact .inl h1
          · rw [Nat.testBit_two_pow] at h1
            exact .inr ⟨e, List.mem_cons_self, hb, .inl (by simpa using h1 : e.on = j).symm⟩
          · exact .inr ⟨e, List.mem_cons_self, hb, .inr h1⟩
        · exact .inl h1
      · exact .inr ⟨e', List.mem_cons_of_mem _ he', h2⟩
  rcases key _ 0 h with h1 | h1
  · simp at h1
  · exact h1

theorem masks_at : ∀ (l : List Oper) (acc : List Nat) (k : Nat), (masks l acc).getD k 0 = if k < acc.length then acc.getD k 0 else match l[k - acc.length]? with | some o => maskOf o ((masks l acc).take k) | none => 0
  | [], acc, k => by
    simp only [masks]
    split
    · rfl
    · rename_i h; simp [List.getD_eq_getElem?_getD, List.getElem?_eq_none (by omega : acc.length ≤ k)]
  | o :: r, acc, k => by
    simp only [masks]
    rw [masks_at r (acc ++ [maskOf o acc]) k]
    have pre : ∀ (l : List Oper) (a : List Nat), ∃ z, masks l a = a ++ z := by
      intro l
      induction l with
      | nil => intro a; exact ⟨[], by simp [masks]⟩
      | cons o l ih => intro a; obtain ⟨z, hz⟩ := ih (a ++ [maskOf o a]); exact ⟨_, by simp only [masks]; rw [hz, List.append_assoc]⟩
    simp only [List.length_append, List.length_cons, List.length_nil, Nat.zero_add]
    by_cases h1 : k < acc.length
    · rw [if_pos (by omega), if_pos h1]
      simp [List.getD_eq_getElem?_getD, List.getElem?_append_left h1]
    · rw [if_neg h1]
      by_cases h2 : k = acc.length
      · subst h2
        rw [if_pos (by omega)]
        simp only [Nat.sub_self, List.getElem?_cons_zero]
        obtain ⟨z, hz⟩ := pre r (acc ++ [maskOf o acc])
        rw [hz]
        simp [List.getD_eq_getElem?_getD]
      · rw [if_neg (by omega)]
        have : k - acc.length = (k - (acc.length + 1)) + 1 := by omega
        rw [this, List.getElem?_cons_succ]

/-- A set of operations that holds what each of its members waits for. -/
def Closed (ops : Array Oper) (S : Nat → Bool) : Prop := ∀ k o, ops[k]? = some o → S k = true → ∀ e ∈ o.after, Region.binds .any e = true → S e.on = true

theorem closed_bit {ops : Array Oper} {S : Nat → Bool} (hc : Closed ops S) : ∀ (k : Nat), S k = true → ∀ j, ((masks ops.toList []).getD k 0).testBit j = true → S j = true := by
  intro k
  induction k using Nat.strongRecOn with
  | _ k ih =>
    intro hk j hj
    rw [masks_at] at hj
    simp only [List.length_nil, Nat.not_lt_zero, if_false, Nat.sub_zero] at hj
    split at hj
    · rename_i o ho
      obtain ⟨e, he, hb, h1⟩ := maskOf_bit _ _ _ hj
      have hS := hc k o (by simpa using ho) hk e (by simpa using he) hb
      rcases h1 with rfl | h1
      · exact hS
      · by_cases hlt : e.on < k
        · refine ih e.on hlt hS j ?_
          have : ((masks ops.toList []).take k).getD e.on 0 = (masks ops.toList []).getD e.on 0 := by
            simp [List.getD_eq_getElem?_getD, List.getElem?_take_of_lt hlt]
          rwa [this] at h1
        · have : ((masks ops.toList []).take k).getD e.on 0 = 0 := by
            rw [List.getD_eq_getElem?_getD, List.getElem?_eq_none (by simp; omega)]; rfl
          rw [this] at h1; simp at h1
    · simp at hj

/-! the lexical run -/

/-- What one operation, unguarded, may hand back. -/
def OpOK1 (P : Program) (o : Oper) (own : List Ent) (e : Operand → DVal) (d : DVal) : Prop :=
  (∃ c g args, o.op = .call c ∧ callee e c = some (g, args) ∧ DPure P g args d) ∨ (nPre P own e o.op ∧ d = nVal P own e o.op)
def OpOK (P : Program) (nt : Nat) (ops : Array Oper) (o : Oper) (s : DS) (d : DVal) : Prop :=
  dstOK nt o.dst = true ∧ match o.guard with
    | none => OpOK1 P o s.own (ev s.slots) d
    | some (j, want) => gOK (gSlot ops s j) = true ∧ okOp (gB (gSlot ops s j) want) (ev s.slots) o.op ∧ ∃ d', d = .sel (gB (gSlot ops s j) want) d' ∧ (gB (gSlot ops s j) want = true → OpOK1 P o s.own (stripE s.slots) d')

/-- 'dOps' where no call's result is looked at for its bounds: for regions that draw. -/
def dOpD (P : Program) (nt : Nat) (o : Oper) (s : DS) (K : Cont) : Prop :=
  dstOK nt o.dst = true ∧ match o.op with
    | .call c => match callee (ev s.slots) c with
      | some (g, args) => callP P g args (kD K s o.dst)
      | none => nPre P s.own (ev s.slots) o.op ∧ K.f ⟨putS s.slots o.dst (nVal P s.own (ev s.slots) o.op), s.own⟩
    | op => nPre P s.own (ev s.slots) op ∧ K.f ⟨putS s.slots o.dst (nVal P s.own (ev s.slots) op), s.own⟩

def lexS (l : List (Nat × DVal)) : List (Oper × DVal) → List (Nat × DVal)
  | [] => l
  | (o, d) :: r => lexS (putS l o.dst d) r

/-- the slots when the operations of S have been carried out -/
def setS (l : List (Nat × DVal)) (S : Nat → Bool) : Nat → List (Oper × DVal) → List (Nat × DVal)
  | _, [] => l
  | i, (o, d) :: r => if S i then putS (setS l S (i + 1) r) o.dst d else setS l S (i + 1) r

theorem getS_putS (l : List (Nat × DVal)) (o : Option Nat) (d : DVal) (t : Nat) : getS (putS l o d) t = if o = some t then d else getS l t := by
  cases o with
  | none => simp [putS]
  | some i =>
    simp only [putS, getS, Option.some.injEq]
    by_cases h : t = i
    · subst h; simp
    · rw [if_neg h, if_neg (fun h' => h h'.symm)]

/-- who writes t -/
theorem getS_setS_none {l : List (Nat × DVal)} {S : Nat → Bool} {t : Nat} : ∀ (zs : List (Oper × DVal)) (i : Nat), (∀ (k : Nat) (z : Oper × DVal), zs[k]? = some z → z.1.dst = some t → S (i + k) = false) → getS (setS l S i zs) t = getS l t
  | [], _, _ => rfl
  | (o, d) :: r, i, h => by
    have ih := getS_setS_none (l := l) (S := S) (t := t) r (i + 1) (fun k z hz hd => by have := h (k + 1) z (by simpa using hz) hd; rwa [show i + 1 + k = i + (k + 1) by omega])
    simp only [setS]
    split
    · rename_i hS
      rw [getS_putS, if_neg, ih]
      intro hd
      have := h 0 (o, d) (by simp) hd
      rw [Nat.add_zero] at this
      rw [this] at hS; simp at hS
    · exact ih

theorem getS_setS_some {l : List (Nat × DVal)} {S : Nat → Bool} {t : Nat} : ∀ (zs : List (Oper × DVal)) (i k : Nat) (z : Oper × DVal), zs[k]? = some z → z.1.dst = some t → S (i + k) = true → (∀ (k' : Nat) (z' : Oper × DVal), zs[k']? = some z' → z'.1.dst = some t → k' = k) → getS (setS l S i zs) t = z.2
  | [], _, _, _, hz, _, _, _ => by simp at hz
  | (o, d) :: r, i, 0, z, hz, hd, hS, _ => by
    simp only [List.getElem?_cons_zero, Option.some.injEq] at hz; subst hz
    simp only [setS]
    rw [Nat.add_zero] at hS
    rw [if_pos hS, getS_putS, if_pos hd]
  | (o, d) :: r, i, k + 1, z, hz, hd, hS, hu => by
    have ih := getS_setS_some (l := l) (S := S) (t := t) r (i + 1) k z (by simpa using hz) hd (by rwa [show i + 1 + k = i + (k + 1) by omega]) (fun k' z' h1 h2 => by have := hu (k' + 1) z' (by simpa using h1) h2; omega)
    have hne : o.dst ≠ some t := fun h => by have := hu 0 (o, d) (by simp) h; omega
    simp only [setS]
    split
    · rw [getS_putS, if_neg hne, ih]
    · exact ih

theorem getS_lexS_none {t : Nat} : ∀ (zs : List (Oper × DVal)) (l : List (Nat × DVal)), (∀ z ∈ zs, z.1.dst ≠ some t) → getS (lexS l zs) t = getS l t
  | [], _, _ => rfl
  | (o, d) :: r, l, h => by
    simp only [lexS]
    rw [getS_lexS_none r _ (fun z hz => h z (List.mem_cons_of_mem _ hz)), getS_putS, if_neg (h (o, d) List.mem_cons_self)]

theorem getS_lexS_some {t : Nat} : ∀ (zs : List (Oper × DVal)) (l : List (Nat × DVal)) (k : Nat) (z : Oper × DVal), zs[k]? = some z → z.1.dst = some t → (∀ (k' : Nat) (z' : Oper × DVal), zs[k']? = some z' → z'.1.dst = some t → k' = k) → getS (lexS l zs) t = z.2
  | [], _, _, _, hz, _, _ => by simp at hz
  | (o, d) :: r, l, 0, z, hz, hd, hu => by
    simp only [List.getElem?_cons_zero, Option.some.injEq] at hz; subst hz
    simp only [lexS]
    rw [getS_lexS_none, getS_putS, if_pos hd]
    intro z' hz' h
    obtain ⟨k', hk', rfl⟩ := List.getElem_of_mem hz'
    have := hu (k' + 1) _ (by simp only [List.getElem?_cons_succ]; exact List.getElem?_eq_getElem hk') h
    omega
  | (o, d) :: r, l, k + 1, z, hz, hd, hu => by
    simp only [lexS]
    exact getS_lexS_some r _ k z (by simpa using hz) hd (fun k' z' h1 h2 => by have := hu (k' + 1) z' (by simpa using h1) h2; omega)

theorem Rel.congr {B : Base} {l l' : List (Nat × DVal)} {own : List Ent} {a : Act} {w : World} {loc : Nat → Loc} (h : ∀ t, getS l' t = getS l t) (R : Rel B ⟨l, own⟩ a w loc) : Rel B ⟨l', own⟩ a w loc :=
  ⟨R.st, R.upd, R.new, R.ver, fun i => by have := R.sl i; simp only at this ⊢; rw [h i]; exact this, R.nt, R.df⟩

theorem cnt_set (S : Nat → Bool) (i : Nat) (hi : S i = false) : ∀ n, i < n → (List.range n).countP (fun k => if k = i then true else S k) = (List.range n).countP S + 1
  | 0, h => by omega
  | n + 1, h => by
    have same : ∀ m, m ≤ i → (List.range m).countP (fun k => if k = i then true else S k) = (List.range m).countP S := by
      intro m hm
      refine List.countP_congr fun k hk => ?_
      have : k ≠ i := by have := List.mem_range.1 hk; omega
      simp [this]
    rw [List.range_succ, List.countP_append, List.countP_append]
    by_cases h' : i < n
    · rw [cnt_set S i hi n h']
      have : n ≠ i := by omega
      simp [List.countP_cons, this]; omega
    · have : n = i := by omega
      subst this
      rw [same n (Nat.le_refl _)]
      simp [List.countP_cons, hi]

section
variable {P : Program} {B : Base} {s : DS}

theorem ev_congr {l l' : List (Nat × DVal)} {x : Operand} (h : ∀ t, x = .tmp t → getS l t = getS l' t) : ev l x = ev l' x := by
  cases x <;> first | rfl | exact h _ rfl

end
end Go.Dm
end

section
/- The data machine, second make, part H: results; a pure contract out of a body; what may be forgotten. -/

set_option linter.unusedSimpArgs false
set_option linter.unusedVariables false
namespace Go.Dm

def resOne (P : Program) (s : DS) : ResultVar → Option DVal
  | .tmp t => some (getS s.slots t)
  | .cell a t => match tAgg P t, tCells P t, cellsAt s.own (getS s.slots a) with
    | some true, some n, some cs => if n ≤ cs.length then some (.agg (cs.take n)) else none
    | some false, _, some cs => match cs with | d :: _ => some d | [] => none
    | _, _, _ => none
def resL (P : Program) (s : DS) : List ResultVar → Option (List DVal)
  | [] => some []
  | r :: rs => match resOne P s r, resL P s rs with
    | some d, some ds => some (d :: ds)
    | _, _ => none
def resD (P : Program) (s : DS) (rs : List ResultVar) : Option DVal :=
  match resL P s rs with
  | some [d] => some d
  | some ds => some (.tup ds)
  | none => none

def resRun (tmps : Array Value) : ResultVar → Sem Value
  | .tmp t => pure (tmps.getD t Go.undef)
  | .cell a t => do loadVar t (← asAddr (tmps.getD a Go.undef))

theorem results_eq (fn : Func) (tmps : Array Value) : results fn tmps = (do let vs ← fn.results.mapM (resRun tmps); pure (if h : vs.size = 1 then vs[0] else .tuple vs)) := by
  unfold results
  congr 1

section
variable {P : Program} {B : Base} {s : DS} {a : Act} {w : World} {loc : Nat → Loc}

/-- the part of 'Rel' that results are read by -/
structure Reads (B : Base) (s : DS) (a : Act) (w : World) (loc : Nat → Loc) : Prop where
  st : St s.own loc B.M0 w.heap
  sl : ∀ i, rd (curOf s.own loc) (hotOf s.own loc ++ B.M0) w.heap (getS s.slots i) (a.tmps.getD i Go.undef)

theorem run_resOne (R : Reads B s a w loc) {r : ResultVar} {d : DVal} (h : resOne P s r = some d) :
    ∃ v, (resRun a.tmps r).run P w = .ok v w ∧ Rds s loc B.M0 w d v := by
  cases r with
  | tmp t =>
    simp only [resOne, Option.some.injEq] at h; subst h
    exact ⟨_, rfl, R.sl t⟩
  | cell x t =>
    simp only [resOne] at h
    have hx := R.sl x
    split at h
    · rename_i n cs hb hn hc
      split at h
      · rename_i hle
        simp only [Option.some.injEq] at h; subst h
        obtain ⟨ad, u, hv, h1, h2⟩ := load_same (P := P) R.st (b := true) hb hx hc (fun _ => ⟨n, hn, hle⟩) (by simp)
        exact ⟨u, by simp only [resRun, hv]; simp [asAddr, h1], by simpa [hn] using h2⟩
      · simp at h
    · rename_i cs hb hc
      split at h
      · simp only [Option.some.injEq] at h; subst h
        obtain ⟨ad, u, hv, h1, h2⟩ := load_same (P := P) R.st (b := false) hb hx hc (by simp) (by simp)
        exact ⟨u, by simp only [resRun, hv]; simp [asAddr, h1], by simpa using h2⟩
      · simp at h
    · simp at h

theorem run_resL (R : Reads B s a w loc) : ∀ (rs : List ResultVar) (ds : List DVal), resL P s rs = some ds →
    ∃ vs : List Value, (rs.mapM (m := Sem) (resRun a.tmps)).run P w = .ok vs w ∧ rdV (cu s loc) (hm s loc B.M0) w.heap ds vs
  | [], ds, h => by
    simp only [resL, Option.some.injEq] at h; subst h
    exact ⟨[], by simp, by simp [rdV]⟩
  | r :: rs, ds, h => by
    simp only [resL] at h
    split at h
    · rename_i d ds' hd hds
      simp only [Option.some.injEq] at h; subst h
      obtain ⟨v, h1, h2⟩ := run_resOne R hd
      obtain ⟨vs, h3, h4⟩ := run_resL R rs ds' hds
      refine ⟨v :: vs, ?_, by simp only [rdV]; exact ⟨v, vs, rfl, h2, h4⟩⟩
      rw [List.mapM_cons, Sem.run_bind, h1]
      simp [h3]
    · simp at h

theorem run_resD (R : Reads B s a w loc) {fn : Func} {d : DVal} (h : resD P s fn.results.toList = some d) : ∃ v, (results fn a.tmps).run P w = .ok v w ∧ Rds s loc B.M0 w d v := by
  unfold resD at h
  cases hl : resL P s fn.results.toList with
  | none => rw [hl] at h; simp at h
  | some ds =>
    rw [hl] at h
    obtain ⟨vs, h1, h2⟩ := run_resL R _ _ hl
    have hlen := rdV_length _ _ h2
    have hm : (fn.results.mapM (m := Sem) (resRun a.tmps)).run P w = .ok vs.toArray w := by
      rw [← Array.toArray_toList (xs := fn.results), List.mapM_toArray, Sem.run_map, h1]
      rfl
    rw [results_eq, Sem.run_bind, hm]
    match ds, vs, hlen, h2, h with
    | [d0], [v0], _, h2, h =>
      simp only [Option.some.injEq] at h; subst h
      simp only [rdV] at h2
      obtain ⟨v, r, he, h5, _⟩ := h2
      simp only [List.cons.injEq] at he
      obtain ⟨rfl, rfl⟩ := he
      exact ⟨v0, by simp, h5⟩
    | [], [], _, h2, h =>
      simp only [Option.some.injEq] at h; subst h
      exact ⟨.tuple #[], by simp, by simp only [Rds, rd]; exact ⟨#[], rfl, h2⟩⟩
    | d0 :: d1 :: ds, v0 :: v1 :: vs, _, h2, h =>
      simp only [Option.some.injEq] at h; subst h
      exact ⟨.tuple (v0 :: v1 :: vs).toArray, by simp, by simp only [Rds, rd]; exact ⟨_, rfl, h2⟩⟩
end

def argS : List DVal → Nat → List (Nat × DVal)
  | [], _ => []
  | d :: ds, i => (i, d) :: argS ds (i + 1)

theorem getS_argS : ∀ (ds : List DVal) (i t : Nat), getS (argS ds i) t = if t < i then .any else ds.getD (t - i) .any
  | [], i, t => by simp [argS, getS]
  | d :: ds, i, t => by
    simp only [argS, getS]
    by_cases h : t = i
    · subst h; simp
    · rw [if_neg h, getS_argS ds (i + 1) t]
      by_cases h1 : t < i
      · rw [if_pos h1, if_pos (by omega)]
      · rw [if_neg h1, if_neg (by omega)]
        have : t - i = (t - (i + 1)) + 1 := by omega
        rw [this, List.getD_cons_succ]

/-- An own state holds on while data stay and the own blocks do. -/
theorem St.same {own : List Ent} {loc : Nat → Loc} {M0 : List Nat} {h h' : Array Obj} (S : St own loc M0 h) (hsz : h.size ≤ h'.size)
    (hd : ∀ (b : Nat) (o : Obj), isD o = true → h[b]? = some o → h'[b]? = some o) (hb : ∀ (b : Nat) (o : Obj), b ∈ hotOf own loc → h[b]? = some o → h'[b]? = some o) : St own loc M0 h' where
  nd := S.nd
  bl := S.bl
  ap := S.ap
  lt := fun b hb => Nat.lt_of_lt_of_le (S.lt b hb) hsz
  ok := by
    intro e he
    have W : Weak (curOf own loc) (curOf own loc) (hotOf own loc ++ M0) (hotOf own loc ++ M0) h h' (mxO e.obj) :=
      ⟨fun _ _ _ _ h => h, fun b o _ (h1 : isD o = true) h2 => hd b o h1 h2, fun b o hb (_ : isD o = true) _ => hb⟩
    exact ObjOK_weak W (Nat.le_refl _) (fun b o hm ho => hb b o (mem_hot he hm) ho) (S.ok e he)

/-- A call of a function value's function. -/
def FCalls (P : Program) (f : Fn) (vs : Array Value) (w : World) (R : Value → World → Prop) : Prop :=
  match f with
  | .func g => Enters P g ∧ Calls P g vs w fun e w' => ∃ v, e = .returned v ∧ R v w'
  | .yield l => ∃ fn tmps assign body, (Instr.yield l vs).run P w = .ok (.round l fn tmps assign body) w ∧ RoundIn (wd none) 0 P l fn tmps assign body w fun e w' => ∃ v, e = .returned v ∧ R v w'
  | _ => False

theorem FCalls.mono {P : Program} {f : Fn} {vs : Array Value} {w : World} {R R' : Value → World → Prop} (h : FCalls P f vs w R) (hr : ∀ v w', R v w' → R' v w') : FCalls P f vs w R' := by
  cases f with
  | func g => exact ⟨h.1, h.2.mono fun e w' ⟨v, he, hR⟩ => ⟨v, he, hr _ _ hR⟩⟩
  | yield l =>
    obtain ⟨fn, tmps, assign, body, h1, h2⟩ := h
    exact ⟨fn, tmps, assign, body, h1, h2.mono fun e w' ⟨v, he, hR⟩ => ⟨v, he, hr _ _ hR⟩⟩
  | method n => exact h.elim
  | methodOf t n => exact h.elim
  | via t p f q => exact h.elim

/-- What is asked at a function's end: its results, and of the state what K says. -/
def Dend (P : Program) (fn : Func) (K : DS → DVal → Prop) : Exit → DS → Prop
  | .normal, s => ∃ d0, resD P s fn.results.toList = some d0 ∧ K s d0
  | .ret, s => ∃ d0, resD P s fn.results.toList = some d0 ∧ K s d0
  | _, _ => False

theorem leaves_marks {P : Program} {fn : Func} {tmps : Array Value} {R : Ending → World → Prop} : ∀ (rs : List Nat) (w : World), rs.Nodup → (∀ r ∈ rs, w.heap[r]? = some (.deferred (some []))) →
    (∀ w', Upd rs w w' → w'.heap.size = w.heap.size → ∃ v, (results fn tmps).run P w' = .ok v w' ∧ R (.returned v) w') →
    LeavesInM (wd none) 0 P fn tmps R (rs.map fun r => { target := .collected r, args := #[] }) .returning w
  | [], w, _, _, h => h w (Upd.refl _ _) rfl
  | r :: rs, w, hn, hr, h => by
    simp only [List.nodup_cons] at hn
    refine ⟨by simp, .inl ⟨r, w.putObj r (.deferred none), rfl, run_takeDeferred (hr r List.mem_cons_self), ?_⟩⟩
    refine leaves_marks rs _ hn.2 (fun r' hr' => ?_) (fun w' hu hs => h w' ?_ ?_)
    · rw [World.putObj_heap_other (fun h => hn.1 (by rw [h] at hr'; exact hr'))]
      exact hr r' (List.mem_cons_of_mem _ hr')
    · have hu0 : Upd [r] w (w.putObj r (.deferred none)) :=
        ⟨rfl, rfl, rfl, Nat.le_refl _, by simp [World.putObj], fun b _ hb => World.putObj_heap_other (fun h => hb (by simp [h]))⟩
      refine (show Upd (r :: rs) w w' from ?_)
      refine ⟨hu.os, hu.tape, hu.output, hu.drawn, Nat.le_trans hu0.size hu.size, fun b hb hnb => ?_⟩
      rw [hu.blk b (Nat.lt_of_lt_of_le hb hu0.size) (fun h => hnb (List.mem_cons_of_mem _ h)), hu0.blk b hb (fun h => hnb (by simp at h; simp [h]))]
    · rw [hs]; simp [World.putObj]

theorem FCalls_intro {P : Program} {f : FuncId} {fn : Func} {c : Code} {args : List DVal} {own : List Ent} {M : List Nat} {w : World} {loc : Nat → Loc} {vs : Array Value} {N : Nat} {R : Value → World → Prop} {K : DS → DVal → Prop} (hN : N ≤ 1)
    (hf : P.funcs[f]? = some fn) (hb : fn.body = some c) (hen : Enters P f) (hnt : args.length ≤ fn.ntmps) (S : St own loc M w.heap) (hv : ∀ e ∈ own, e.r < N → True)
    (hr : rdV (curOf own loc) (hotOf own loc ++ M) w.heap args vs.toList)
    (h : ∀ B : Base, B.nt = fn.ntmps ∧ B.ro = none → DW P B c (Dend P fn K) ⟨argS args 0, own⟩)
    (fin : ∀ (s : DS) (loc' : Nat → Loc) (w' : World) (d0 : DVal) (v : Value), K s d0 → St s.own loc' M w'.heap → Upd (hotOf own loc) w w' → (∀ b ∈ hotOf s.own loc', b ∈ hotOf own loc ∨ w.heap.size ≤ b) →
      (∀ e ∈ s.own, e.r < N → curOf own loc e.id e.r = some (loc' e.id)) → rd (curOf s.own loc') (hotOf s.own loc' ++ M) w'.heap d0 v → R v w') : FCalls P (.func f) vs w R := by
  refine ⟨hen, ?_⟩
  refine (callsIn_wide (n := 0)).1 ?_
  refine callsIn_of_wp_marks hf hb trivial ?_ rfl
  let B : Base := ⟨own, loc, M, N, w, fn.ntmps, none, hN⟩
  have hlen := rdV_length _ _ hr
  have R0 : Rel B ⟨argS args 0, own⟩ { tmps := vs ++ Array.replicate (fn.ntmps - vs.size) Go.undef, defers := [] } w loc := by
    refine ⟨S, Upd.refl _ _, fun b hb => .inl hb, fun e he _ => curOf_self S.nd he, ?_, by show _ = fn.ntmps; simp at hlen ⊢; omega, ⟨[], rfl, List.nodup_nil, by simp⟩⟩
    intro i
    rw [getS_argS]
    simp only [Nat.not_lt_zero, if_false, Nat.sub_zero]
    cases hi : args[i]? with
    | none => simp [List.getD_eq_getElem?_getD, hi, rd]
    | some d0 =>
      obtain ⟨v, hv, h1⟩ := rdV_at _ _ i d0 hr hi
      have hlt : i < vs.size := by
        have := (List.getElem?_eq_some_iff.1 hv).1
        simpa using this
      have hv' : vs[i]? = some v := by simpa using hv
      rw [List.getD_eq_getElem?_getD, hi, Array.getD_eq_getD_getElem?, Array.getElem?_append_left hlt, hv']
      exact h1
  refine wpIn_mono (h B ⟨rfl, rfl⟩ _ w loc R0) ?_
  rintro e a' w' ⟨s', loc', hq, R'⟩
  have key : (∃ d0, resD P s' fn.results.toList = some d0 ∧ K s' d0) → LeavesInM (wd none) 0 P fn a'.tmps (fun e w' => ∃ v, e = .returned v ∧ R v w') a'.defers .returning w' := by
    rintro ⟨d0, hres, hK⟩
    obtain ⟨rs, hd1, hd0, hd2, _⟩ := R'.df
    rw [hd1]
    refine leaves_marks rs w' hd0 (fun r hr => (hd2 r hr).1) fun w'' hu hs => ?_
    have hdd : ∀ (b : Nat) (o : Obj), isD o = true → w'.heap[b]? = some o → w''.heap[b]? = some o := by
      intro b o ho hb
      have hlt := (Array.getElem?_eq_some_iff.1 hb).1
      rw [hu.blk b hlt (fun h => by rw [(hd2 b h).1] at hb; simp only [Option.some.injEq] at hb; subst hb; simp [isD] at ho)]
      exact hb
    have hhot : ∀ (b : Nat) (o : Obj), b ∈ hotOf s'.own loc' → w'.heap[b]? = some o → w''.heap[b]? = some o := by
      intro b o hm hb
      have hlt := (Array.getElem?_eq_some_iff.1 hb).1
      rw [hu.blk b hlt (fun h => (hd2 b h).2.2 (List.mem_append_left _ hm))]
      exact hb
    have S'' := R'.st.same (Nat.le_of_eq hs.symm) hdd hhot
    have W : ∀ n, Weak (curOf s'.own loc') (curOf s'.own loc') (hotOf s'.own loc' ++ M) (hotOf s'.own loc' ++ M) w'.heap w''.heap n := fun n =>
      ⟨fun _ _ _ _ h => h, fun b o _ (h1 : isD o = true) h2 => hdd b o h1 h2, fun b o hb (_ : isD o = true) _ => hb⟩
    have RR : Reads B s' a' w'' loc' := ⟨S'', fun i => rd_weak (W _) _ _ (Nat.le_refl _) (R'.sl i)⟩
    obtain ⟨v, h1, h2⟩ := run_resD RR hres
    refine ⟨v, h1, v, rfl, fin s' loc' w'' d0 v hK S'' ?_ R'.new R'.ver h2⟩
    refine R'.upd.trans hu (fun x hx => .inr (hd2 x hx).2.1)
  cases e <;> simp only [Dend] at hq <;> first
    | exact key hq
    | exact hq.elim

/-- the same, where the results are read as less -/
def DretW (P : Program) (fn : Func) (d : DVal) : Exit → DS → Prop := Dend P fn fun _ d0 => ∀ cur M h v, rd cur M h d0 v → rd cur M h d v

theorem DPure_introK {P : Program} {f : FuncId} {fn : Func} {c : Code} {args : List DVal} {d : DVal} {K : DS → DVal → Prop} (hf : P.funcs[f]? = some fn) (hb : fn.body = some c) (hen : Enters P f) (hnt : args.length ≤ fn.ntmps)
    (hd : mx d = 0) (fin : ∀ (B : Base) (s : DS) (d0 : DVal) (loc : Nat → Loc) (w : World) (v : Value), K s d0 → St s.own loc B.M0 w.heap → rd (curOf s.own loc) (hotOf s.own loc ++ B.M0) w.heap d0 v → ∃ (s' : DS) (loc' : Nat → Loc), (∀ b, b ∈ B.M0 → b ∈ hotOf s'.own loc' ++ B.M0) ∧ rd (curOf s'.own loc') (hotOf s'.own loc' ++ B.M0) w.heap d v)
    (h : wfL args → ∀ B : Base, B.nt = fn.ntmps ∧ B.ro = none → DW P B c (Dend P fn K) ⟨argS args 0, []⟩) : DPure P f args d := by
  refine ⟨hen, hd, fun cur M w vs hM hr => ?_⟩
  have W : Weak cur (curOf [] fun _ => ⟨[], Go.undef⟩) M (hotOf [] (fun _ => ⟨[], Go.undef⟩) ++ M) w.heap w.heap (mxL args) :=
    ⟨fun id r l _ hl => by simp [curOf, findE] at hl, fun b o _ _ ho => ho, fun b o hb _ _ => by simpa [hotOf] using hb⟩
  have S : St [] (fun _ => ⟨[], Go.undef⟩) M w.heap := ⟨by simp, by simp [hotOf], by simp [hotOf], by simpa [hotOf] using hM, by simp⟩
  have := FCalls_intro (P := P) (R := fun v w' => Upd [] w w' ∧ rd cur M w'.heap d v) (Nat.zero_le 1) hf hb hen hnt S (by simp) (rdV_weak W args _ (Nat.le_refl _) hr) (h (rdV_wf _ _ hr)) ?_
  · exact this.2
  · intro s loc' w' d0 v hK hS hu _ _ hd0
    refine ⟨by simpa [hotOf] using hu, ?_⟩
    obtain ⟨s1, loc1, hm1, h1⟩ := fin ⟨[], loc', M, 0, w, 0, none, by decide⟩ s d0 loc' w' v hK hS hd0
    exact rd_weak (n := 0) ⟨fun id r l hr => by omega, fun b o _ _ ho => ho, fun b o hb _ _ hm' => hb (hm1 b hm')⟩ d v (by omega) h1

theorem DPure_introW {P : Program} {f : FuncId} {fn : Func} {c : Code} {args : List DVal} {d : DVal} (hf : P.funcs[f]? = some fn) (hb : fn.body = some c) (hen : Enters P f) (hnt : args.length ≤ fn.ntmps)
    (hd : mx d = 0) (h : wfL args → ∀ B : Base, B.nt = fn.ntmps ∧ B.ro = none → DW P B c (DretW P fn d) ⟨argS args 0, []⟩) : DPure P f args d :=
  DPure_introK hf hb hen hnt hd (fun B s d0 loc w v hK _ hd0 => ⟨s, loc, fun b hb => List.mem_append_right _ hb, hK _ _ _ _ hd0⟩) h

theorem hot_cons (e : Ent) (l : List Ent) (loc : Nat → Loc) : hotOf (e :: l) loc = (loc e.id).blks ++ hotOf l loc := by simp [hotOf]

/-- two own objects never share a block -/
theorem hot_inj {loc : Nat → Loc} : ∀ {own : List Ent}, (hotOf own loc).Nodup → ∀ e1 ∈ own, ∀ e2 ∈ own, ∀ b, b ∈ (loc e1.id).blks → b ∈ (loc e2.id).blks → e1 = e2
  | [], _, e1, h1, _, _, _, _, _ => by cases h1
  | e :: l, hn, e1, h1, e2, h2, b, hb1, hb2 => by
    rw [hot_cons, List.nodup_append] at hn
    obtain ⟨_, hn2, hn3⟩ := hn
    rcases List.mem_cons.1 h1 with rfl | h1'
    · rcases List.mem_cons.1 h2 with rfl | h2'
      · rfl
      · exact absurd rfl (hn3 b hb1 b (mem_hot h2' hb2))
    · rcases List.mem_cons.1 h2 with rfl | h2'
      · exact absurd rfl (hn3 b hb2 b (mem_hot h1' hb1))
      · exact hot_inj hn2 e1 h1' e2 h2' b hb1 hb2

theorem blks_nodup {loc : Nat → Loc} : ∀ {own : List Ent}, (hotOf own loc).Nodup → ∀ e ∈ own, ((loc e.id).blks).Nodup
  | [], _, e, h => by cases h
  | a :: l, hn, e, h => by
    rw [hot_cons, List.nodup_append] at hn
    rcases List.mem_cons.1 h with rfl | h'
    · exact hn.1
    · exact blks_nodup hn.2.1 e h'

theorem hot_nodup_sub {own : List Ent} {loc : Nat → Loc} (hn : (hotOf own loc).Nodup) : ∀ l : List Ent, (l.map (·.id)).Nodup → (∀ e ∈ l, e ∈ own) → (hotOf l loc).Nodup
  | [], _, _ => by simp [hotOf]
  | e :: l, hd, hm => by
    simp only [List.map_cons, List.nodup_cons] at hd
    rw [hot_cons, List.nodup_append]
    refine ⟨blks_nodup hn e (hm e List.mem_cons_self), hot_nodup_sub hn l hd.2 (fun x hx => hm x (List.mem_cons_of_mem _ hx)), ?_⟩
    intro b hb b' hb' hbb
    subst hbb
    obtain ⟨e2, he2, hb2⟩ := List.mem_flatMap.1 hb'
    have := hot_inj hn e (hm e List.mem_cons_self) e2 (hm e2 (List.mem_cons_of_mem _ he2)) b hb hb2
    subst this
    exact hd.1 (List.mem_map_of_mem (f := (·.id)) he2)

end Go.Dm
end

