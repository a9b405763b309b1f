/- Parts of a proof, laid together: EnA, EnB, EnC, EnD, EnD1. -/
import Derived.WalkKit
import Derived.Laws.Rows
import Derived.Laws.Cells
import Derived.Laws.StructEq
section
/- The data machine, second make, part A: data, and how a datum reads in memory. No program, no statement. -/


set_option linter.unusedSimpArgs false
set_option linter.unusedVariables false
namespace Go.Dm

/-- A datum: what a slot or a cell holds, as far as it is known. 'bx', 'rx', 'osl', 'omp' lead to own objects (number, version). -/
inductive DVal where
  | any
  | undef
  | sel (c : Bool) (d : DVal)
  | bool (b : Bool)
  | int (k : IntKind) (n : Int)
  | str (s : ByteArray)
  | nilp
  | ref (cs : List DVal)
  | bx (id r off : Nat)
  | rx (id r k i j : Nat)
  | nilsl
  | esl
  | sl (k bs : Nat) (es : List (List DVal))
  | osl (id r : Nat)
  | vw (id r k bs i n : Nat)
  | nilmp
  | mp (ks vs : List DVal)
  | omp (id r : Nat)
  | pk (id r : Nat)
  | nilfn
  | fn (f : Fn) (first caps : List DVal)
  | nilifc
  | ifc (t : TypeId) (d : DVal)
  | agg (cs : List DVal)
  | tup (vs : List DVal)
  deriving Inhabited

/-- Where an own object lies: its blocks, and the value that leads to it. -/
structure Loc where
  blks : List Nat
  hdr : Value

/-- A map's entries were laid one behind the other. -/
def bornOK (es : Array MapEntry) (clk : Nat) : Prop := (es.toList.map (·.born)).Nodup ∧ ∀ e ∈ es.toList, e.born < clk

/-- A number fits its kind. -/
def inR : IntKind → Int → Prop
  | .i64, n => -9223372036854775808 ≤ n ∧ n ≤ 9223372036854775807
  | .u64, n => 0 ≤ n ∧ n ≤ 18446744073709551615
  | .u8, n => 0 ≤ n ∧ n ≤ 255
  | .i8, n => -128 ≤ n ∧ n ≤ 127
  | .i16, n => -32768 ≤ n ∧ n ≤ 32767
  | .u16, n => 0 ≤ n ∧ n ≤ 65535
  | .i32, n => -2147483648 ≤ n ∧ n ≤ 2147483647
  | .u32, n => 0 ≤ n ∧ n ≤ 4294967295

abbrev Cur := Nat → Nat → Option Loc

section
variable (cur : Cur) (M : List Nat) (h : Array Obj)
mutual
/-- Value v is what datum d says, in heap h; no block of M is met. -/
def rd : DVal → Value → Prop
  | .any, _ => True
  | .undef, v => v = Go.undef
  | .sel c d, v => (c = true → rd d v) ∧ (c = false → v = Go.undef)
  | .bool b, v => v = .bool b
  | .int k n, v => v = .int k n ∧ inR k n
  | .str s, v => v = .string s ∧ s.size ≤ maxLen
  | .nilp, v => v = .pointer none
  | .ref cs, v => ∃ b off arr ty fz, v = .pointer (some ⟨b, off, none⟩) ∧ b ∉ M ∧ h[b]? = some (.cells arr ty fz) ∧ rdC cs arr off
  | .bx id r off, v => ∀ l, cur id r = some l → ∃ b, l.blks = [b] ∧ v = .pointer (some ⟨b, off, none⟩)
  | .rx id r k i j, v => ∀ l, cur id r = some l → ∃ b, l.blks = [b] ∧ v = .pointer (some ⟨b, i * k + j, none⟩)
  | .nilsl, v => v = .slice none 0 0
  | .esl, v => ∃ ad cap, v = .slice (some ad) 0 cap ∧ cap ≤ maxLen
  | .sl k bs es, v => ∃ a cap, v = .slice a es.length cap ∧ es.length ≤ cap ∧ cap ≤ maxLen ∧ es.length * bs ≤ 150000000000000 ∧
      ((es = [] ∧ (a = none → cap = 0)) ∨ ∃ b off arr ty fz, a = some ⟨b, off, none⟩ ∧ b ∉ M ∧ h[b]? = some (.cells arr ty fz) ∧ rdR k es arr off)
  | .osl id r, v => ∀ l, cur id r = some l → v = l.hdr
  | .vw id r k _ i n, v => ∀ l, cur id r = some l → ∃ a cap, v = .slice a n cap ∧ n ≤ cap ∧ cap ≤ maxLen ∧ (a = none → cap = 0) ∧ (0 < n → ∃ b, l.blks = [b] ∧ a = some ⟨b, i * k, none⟩) ∧ (i = 0 → ∃ n0, l.hdr = .slice a n0 cap)
  | .nilmp, v => v = .map none
  | .mp ks vs, v => ∃ b es clk, v = .map (some b) ∧ b ∉ M ∧ h[b]? = some (.map es clk) ∧ bornOK es clk ∧ rdV ks (es.toList.map (·.key)) ∧ rdV vs (es.toList.map (·.val))
  | .omp id r, v => ∀ l, cur id r = some l → ∃ b, l.blks = [b] ∧ v = .map (some b)
  | .pk id r, v => ∀ l, cur id r = some l → v = l.hdr
  | .nilfn, v => v = .nilFunc
  | .fn f us cs, v => ∃ us' cs' : Array Value, v = .func f us' cs' ∧ rdV us us'.toList ∧ rdV cs cs'.toList
  | .nilifc, v => v = .nilIface
  | .ifc t d, v => ∃ u, v = .iface t u ∧ rd d u
  | .agg cs, v => ∃ us : Array Value, v = .agg us ∧ rdV cs us.toList
  | .tup cs, v => ∃ us : Array Value, v = .tuple us ∧ rdV cs us.toList
/-- The cells from 'o' on read as these. -/
def rdC : List DVal → Array Value → Nat → Prop
  | [], _, _ => True
  | d :: ds, arr, o => (∃ v, arr[o]? = some v ∧ v.oneCell' = true ∧ rd d v) ∧ rdC ds arr (o + 1)
/-- Rows of k cells, one behind the other. -/
def rdR (k : Nat) : List (List DVal) → Array Value → Nat → Prop
  | [], _, _ => True
  | cs :: es, arr, o => cs.length = k ∧ rdC cs arr o ∧ rdR k es arr (o + k)
/-- Values, one for each datum. -/
def rdV : List DVal → List Value → Prop
  | [], vs => vs = []
  | d :: ds, vs => ∃ v r, vs = v :: r ∧ rd d v ∧ rdV ds r
end
end

mutual
/-- One above the greatest version that is named. -/
def mx : DVal → Nat
  | .ref cs => mxL cs
  | .bx _ r _ => r + 1
  | .rx _ r _ _ _ => r + 1
  | .osl _ r => r + 1
  | .vw _ r _ _ _ _ => r + 1
  | .mp ks vs => max (mxL ks) (mxL vs)
  | .omp _ r => r + 1
  | .pk _ r => r + 1
  | .sl _ _ es => mxR es
  | .fn _ us cs => max (mxL us) (mxL cs)
  | .ifc _ d => mx d
  | .sel c d => if c then mx d else 0
  | .agg cs => mxL cs
  | .tup cs => mxL cs
  | _ => 0
def mxL : List DVal → Nat
  | [] => 0
  | d :: ds => max (mx d) (mxL ds)
def mxR : List (List DVal) → Nat
  | [] => 0
  | cs :: es => max (mxL cs) (mxR es)
end

section
variable {cur cur' : Cur} {M M' : List Nat} {h h' : Array Obj} {n : Nat}

/-- what may be read as data -/
def isD : Obj → Bool
  | .cells _ _ _ => true
  | .map _ _ => true
  | _ => false

structure Weak (cur cur' : Cur) (M M' : List Nat) (h h' : Array Obj) (n : Nat) : Prop where
  c : ∀ id r l, r < n → cur' id r = some l → cur id r = some l
  b : ∀ b o, b ∉ M → isD o = true → h[b]? = some o → h'[b]? = some o
  m : ∀ b o, b ∉ M → isD o = true → h[b]? = some o → b ∉ M'

mutual
theorem rd_weak (W : Weak cur cur' M M' h h' n) : ∀ (d : DVal) (v : Value), mx d ≤ n → rd cur M h d v → rd cur' M' h' d v
  | .any, _, _, _ => by simp [rd]
  | .undef, _, _, hr => by simpa [rd] using hr
  | .sel c d, v, hm, hr => by
    simp only [mx] at hm
    simp only [rd] at hr ⊢
    exact ⟨fun h => rd_weak W d v (by rw [if_pos h] at hm; exact hm) (hr.1 h), hr.2⟩
  | .bool _, _, _, hr => by simpa [rd] using hr
  | .int _ _, _, _, hr => by simpa [rd] using hr
  | .str _, _, _, hr => by simpa [rd] using hr
  | .nilp, _, _, hr => by simpa [rd] using hr
  | .ref cs, v, hm, hr => by
    simp only [mx] at hm
    simp only [rd] at hr ⊢
    obtain ⟨b, off, arr, ty, fz, h1, h2, h3, h4⟩ := hr
    exact ⟨b, off, arr, ty, fz, h1, W.m b _ h2 rfl h3, W.b b _ h2 rfl h3, rdC_weak W cs arr off hm h4⟩
  | .bx id r off, v, hm, hr => by
    simp only [mx] at hm
    simp only [rd] at hr ⊢
    exact fun l hl => hr l (W.c id r l (by omega) hl)
  | .rx id r k i j, v, hm, hr => by
    simp only [mx] at hm
    simp only [rd] at hr ⊢
    exact fun l hl => hr l (W.c id r l (by omega) hl)
  | .nilsl, _, _, hr => by simpa [rd] using hr
  | .esl, _, _, hr => by simpa [rd] using hr
  | .sl k bs es, v, hm, hr => by
    simp only [mx] at hm
    simp only [rd] at hr ⊢
    obtain ⟨a, cap, h1, h2, h2', h2'', h3⟩ := hr
    refine ⟨a, cap, h1, h2, h2', h2'', h3.imp id ?_⟩
    rintro ⟨b, off, arr, ty, fz, g1, g2, g3, g4⟩
    exact ⟨b, off, arr, ty, fz, g1, W.m b _ g2 rfl g3, W.b b _ g2 rfl g3, rdR_weak W k es arr off hm g4⟩
  | .osl id r, v, hm, hr => by
    simp only [mx] at hm
    simp only [rd] at hr ⊢
    exact fun l hl => hr l (W.c id r l (by omega) hl)
  | .vw id r k bs i n, v, hm, hr => by
    simp only [mx] at hm
    simp only [rd] at hr ⊢
    exact fun l hl => hr l (W.c id r l (by omega) hl)
  | .nilmp, _, _, hr => by simpa [rd] using hr
  | .mp ks vs, v, hm, hr => by
    simp only [mx] at hm
    simp only [rd] at hr ⊢
    obtain ⟨b, es, clk, h1, h2, h3, h4, h5, h6⟩ := hr
    exact ⟨b, es, clk, h1, W.m b _ h2 rfl h3, W.b b _ h2 rfl h3, h4, rdV_weak W ks _ (by omega) h5, rdV_weak W vs _ (by omega) h6⟩
  | .omp id r, v, hm, hr => by
    simp only [mx] at hm
    simp only [rd] at hr ⊢
    exact fun l hl => hr l (W.c id r l (by omega) hl)
  | .pk id r, v, hm, hr => by
    simp only [mx] at hm
    simp only [rd] at hr ⊢
    exact fun l hl => hr l (W.c id r l (by omega) hl)
  | .nilfn, _, _, hr => by simpa [rd] using hr
  | .fn f us cs, v, hm, hr => by
    simp only [mx] at hm
    simp only [rd] at hr ⊢
    obtain ⟨us', cs', h1, h2, h3⟩ := hr
    exact ⟨us', cs', h1, rdV_weak W us _ (by omega) h2, rdV_weak W cs _ (by omega) h3⟩
  | .nilifc, _, _, hr => by simpa [rd] using hr
  | .ifc t d, v, hm, hr => by
    simp only [mx] at hm
    simp only [rd] at hr ⊢
    obtain ⟨u, h1, h2⟩ := hr
    exact ⟨u, h1, rd_weak W d u hm h2⟩
  | .agg cs, v, hm, hr => by
    simp only [mx] at hm
    simp only [rd] at hr ⊢
    obtain ⟨us, h1, h2⟩ := hr
    exact ⟨us, h1, rdV_weak W cs _ hm h2⟩
  | .tup cs, v, hm, hr => by
    simp only [mx] at hm
    simp only [rd] at hr ⊢
    obtain ⟨us, h1, h2⟩ := hr
    exact ⟨us, h1, rdV_weak W cs _ hm h2⟩
theorem rdC_weak (W : Weak cur cur' M M' h h' n) : ∀ (ds : List DVal) (arr : Array Value) (o : Nat), mxL ds ≤ n → rdC cur M h ds arr o → rdC cur' M' h' ds arr o
  | [], _, _, _, _ => by simp [rdC]
  | d :: ds, arr, o, hm, hr => by
    simp only [mxL] at hm
    simp only [rdC] at hr ⊢
    obtain ⟨⟨v, h1, h1', h2⟩, h3⟩ := hr
    exact ⟨⟨v, h1, h1', rd_weak W d v (by omega) h2⟩, rdC_weak W ds arr _ (by omega) h3⟩
theorem rdR_weak (W : Weak cur cur' M M' h h' n) : ∀ (k : Nat) (es : List (List DVal)) (arr : Array Value) (o : Nat), mxR es ≤ n → rdR cur M h k es arr o → rdR cur' M' h' k es arr o
  | _, [], _, _, _, _ => by simp [rdR]
  | k, cs :: es, arr, o, hm, hr => by
    simp only [mxR] at hm
    simp only [rdR] at hr ⊢
    obtain ⟨h1, h2, h3⟩ := hr
    exact ⟨h1, rdC_weak W cs arr o (by omega) h2, rdR_weak W k es arr _ (by omega) h3⟩
theorem rdV_weak (W : Weak cur cur' M M' h h' n) : ∀ (ds : List DVal) (vs : List Value), mxL ds ≤ n → rdV cur M h ds vs → rdV cur' M' h' ds vs
  | [], _, _, hr => by simpa [rdV] using hr
  | d :: ds, vs, hm, hr => by
    simp only [mxL] at hm
    simp only [rdV] at hr ⊢
    obtain ⟨v, r, h1, h2, h3⟩ := hr
    exact ⟨v, r, h1, rd_weak W d v (by omega) h2, rdV_weak W ds r (by omega) h3⟩
end
end
end Go.Dm
end

section
/- The data machine, second make, part B: own objects, states, and what they say of a frame and a world. -/

set_option linter.unusedSimpArgs false
set_option linter.unusedVariables false
namespace Go.Dm

/-- A thing of which no more is known than a word on its blocks; it holds on while these stay and what is not own does. -/
structure Abs where
  J : List Nat → List Nat → Value → Array Obj → Prop
  weak : ∀ M M' bl hd h h', (∀ b o, b ∉ M → isD o = true → h[b]? = some o → h'[b]? = some o) → (∀ b o, b ∉ M → isD o = true → h[b]? = some o → b ∉ M') → (∀ b o, b ∈ bl → h[b]? = some o → h'[b]? = some o) → J M bl hd h → J M' bl hd h'
  one : ∀ M bl hd h, J M bl hd h → hd.oneCell' = true ∧ hd.cells = #[hd]
  nd : ∀ M bl hd h, J M bl hd h → ∀ b ∈ bl, ∀ c, h[b]? ≠ some (.deferred c)

inductive DObj where
  | box (cs : List DVal)
  | row (et : TypeId) (k bs : Nat) (es : List (List DVal))
  | map (ks vs : List DVal)
  | abs (A : Abs)

structure Ent where
  id : Nat
  r : Nat
  obj : DObj

structure DS where
  slots : List (Nat × DVal)
  own : List Ent

def getS : List (Nat × DVal) → Nat → DVal
  | [], _ => .any
  | (j, d) :: t, i => if i = j then d else getS t i

def findE : List Ent → Nat → Option Ent
  | [], _ => none
  | e :: t, id => if e.id = id then some e else findE t id

def setE : List Ent → Nat → DObj → List Ent
  | [], _, _ => []
  | e :: t, id, o => if e.id = id then ⟨e.id, e.r, o⟩ :: t else e :: setE t id o

def delE : List Ent → Nat → List Ent
  | [], _ => []
  | e :: t, id => if e.id = id then delE t id else e :: delE t id

def mxS : List (Nat × DVal) → Nat
  | [] => 0
  | p :: t => max (mx p.2) (mxS t)

def mxO : DObj → Nat
  | .box cs => mxL cs
  | .row _ _ _ es => mxR es
  | .map ks vs => max (mxL ks) (mxL vs)
  | .abs _ => 0

def mxE : List Ent → Nat
  | [] => 0
  | e :: t => max (max (e.r + 1) (mxO e.obj)) (mxE t)

theorem mx_getS (l : List (Nat × DVal)) (i : Nat) : mx (getS l i) ≤ mxS l := by
  induction l with
  | nil => simp [getS, mx, mxS]
  | cons p t ih =>
    obtain ⟨j, d⟩ := p
    simp only [getS, mxS]
    split <;> omega

theorem mem_mxE {own : List Ent} {e : Ent} (h : e ∈ own) : e.r < mxE own ∧ mxO e.obj ≤ mxE own := by
  induction own with
  | nil => cases h
  | cons a t ih =>
    simp only [mxE]
    rcases List.mem_cons.1 h with rfl | h
    · omega
    · have := ih h; omega

def curOf (own : List Ent) (loc : Nat → Loc) : Cur := fun id r =>
  match findE own id with
  | some e => if e.r = r then some (loc id) else none
  | none => none

def hotOf (own : List Ent) (loc : Nat → Loc) : List Nat := own.flatMap fun e => (loc e.id).blks

section
variable (cur : Cur) (M : List Nat) (h : Array Obj)
def ObjOK (l : Loc) : DObj → Prop
  | .box cs => ∃ b arr ty, l.blks = [b] ∧ h[b]? = some (.cells arr ty (0, 0)) ∧ arr.size = cs.length ∧ rdC cur M h cs arr 0
  | .row et k bs es => es.length * bs ≤ 150000000000000 ∧ ((es = [] ∧ l.blks = [] ∧ l.hdr = .slice none 0 0) ∨
      ∃ b arr cap, l.blks = [b] ∧ l.hdr = .slice (some ⟨b, 0, none⟩) es.length cap ∧ h[b]? = some (.cells arr et (0, 0)) ∧ es.length ≤ cap ∧ cap ≤ maxLen ∧ cap * k = arr.size ∧ rdR cur M h k es arr 0)
  | .map ks vs => ∃ b es clk, l.blks = [b] ∧ h[b]? = some (.map es clk) ∧ bornOK es clk ∧ rdV cur M h ks (es.toList.map (·.key)) ∧ rdV cur M h vs (es.toList.map (·.val))
  | .abs A => A.J M l.blks l.hdr h
end

/-- An own object is what it is, while its blocks stay. -/
theorem ObjOK_weak {cur cur' : Cur} {M M' : List Nat} {h h' : Array Obj} {n : Nat} {l : Loc} {obj : DObj} (W : Weak cur cur' M M' h h' n) (hn : mxO obj ≤ n)
    (keep : ∀ b o, b ∈ l.blks → h[b]? = some o → h'[b]? = some o) (hk : ObjOK cur M h l obj) : ObjOK cur' M' h' l obj := by
  cases obj with
  | box cs =>
    simp only [mxO] at hn
    obtain ⟨b, arr, ty, h1, h2, h3, h4⟩ := hk
    exact ⟨b, arr, ty, h1, keep b _ (by simp [h1]) h2, h3, rdC_weak W cs arr 0 hn h4⟩
  | row et k bs es =>
    simp only [mxO] at hn
    obtain ⟨h0, hk⟩ := hk
    refine ⟨h0, hk.imp id ?_⟩
    rintro ⟨b, arr, cap, h1, h2, h3, h4, h5, h6, h7⟩
    exact ⟨b, arr, cap, h1, h2, keep b _ (by simp [h1]) h3, h4, h5, h6, rdR_weak W k es arr 0 hn h7⟩
  | map ks vs =>
    simp only [mxO] at hn
    obtain ⟨b, es, clk, h1, h2, h3, h4, h5⟩ := hk
    exact ⟨b, es, clk, h1, keep b _ (by simp [h1]) h2, h3, rdV_weak W ks _ (by omega) h4, rdV_weak W vs _ (by omega) h5⟩
  | abs A => exact A.weak M M' l.blks l.hdr h h' W.b W.m keep hk

structure St (own : List Ent) (loc : Nat → Loc) (M0 : List Nat) (h : Array Obj) : Prop where
  nd : (own.map (·.id)).Nodup
  bl : (hotOf own loc).Nodup
  ap : ∀ b ∈ hotOf own loc, b ∉ M0
  lt : ∀ b ∈ hotOf own loc ++ M0, b < h.size
  ok : ∀ e ∈ own, ObjOK (curOf own loc) (hotOf own loc ++ M0) h (loc e.id) e.obj

/-- From w to w' no block has turned but those of H; new ones may have come. -/
structure Upd (H : List Nat) (w w' : World) : Prop where
  os : w'.os = w.os
  tape : w'.tape = w.tape
  output : w'.output = w.output
  drawn : w.drawn ≤ w'.drawn
  size : w.heap.size ≤ w'.heap.size
  blk : ∀ b, b < w.heap.size → b ∉ H → w'.heap[b]? = w.heap[b]?

theorem Upd.refl (H : List Nat) (w : World) : Upd H w w := ⟨rfl, rfl, rfl, Nat.le_refl _, Nat.le_refl _, fun _ _ _ => rfl⟩

theorem Upd.trans {H H' : List Nat} {a b c : World} (h : Upd H a b) (k : Upd H' b c) (hh : ∀ x ∈ H', x ∈ H ∨ a.heap.size ≤ x) : Upd H a c :=
  ⟨k.os.trans h.os, k.tape.trans h.tape, k.output.trans h.output, Nat.le_trans h.drawn k.drawn, Nat.le_trans h.size k.size, fun x hx hn =>
    (k.blk x (Nat.lt_of_lt_of_le hx h.size) (fun hm => by rcases hh x hm with h1 | h1; exact hn h1; omega)).trans (h.blk x hx hn)⟩

theorem Upd.alloc (H : List Nat) (w : World) (o : Obj) : Upd H w (w.alloc o) :=
  ⟨rfl, rfl, rfl, Nat.le_refl _, by simp, fun b hb _ => by simp only [World.alloc, Array.getElem?_push]; rw [if_neg (by omega)]⟩

theorem Upd.drew (H : List Nat) (w : World) : Upd H w w.drew := ⟨rfl, rfl, rfl, by simp, Nat.le_refl _, fun _ _ _ => rfl⟩

theorem Upd.nil {H : List Nat} {w w' : World} (h : Upd [] w w') : Upd H w w' := ⟨h.os, h.tape, h.output, h.drawn, h.size, fun b hb _ => h.blk b hb (by simp)⟩

structure Base where
  own0 : List Ent
  loc0 : Nat → Loc
  M0 : List Nat
  N : Nat
  w0 : World
  nt : Nat
  ro : Option Nat := none
  hN : N ≤ 1 := by decide

/-- The activation's deferred calls: those of ranges over functions alone; none was laid. -/
def DfOK (B : Base) (M : List Nat) (a : Act) (h : Array Obj) : Prop :=
  ∃ rs : List Nat, a.defers = rs.map (fun r => { target := .collected r, args := #[] }) ∧ rs.Nodup ∧ (∀ r ∈ rs, h[r]? = some (.deferred (some [])) ∧ B.w0.heap.size ≤ r ∧ r ∉ M) ∧ (B.ro ≠ none → rs = [])

theorem DfOK.keep {B : Base} {M M' H : List Nat} {a a' : Act} {w w' : World} (hd : DfOK B M a w.heap) (ha : a'.defers = a.defers)
    (hu : Upd H w w') (hH : ∀ x ∈ H, x ∈ M) (hm : ∀ b ∈ M', b ∈ M ∨ w.heap.size ≤ b) : DfOK B M' a' w'.heap := by
  obtain ⟨rs, h1, h0, h2, h3⟩ := hd
  refine ⟨rs, ha.trans h1, h0, fun r hr => ?_, h3⟩
  obtain ⟨g1, g2, g3⟩ := h2 r hr
  have hlt := (Array.getElem?_eq_some_iff.1 g1).1
  refine ⟨by rw [hu.blk r hlt (fun h => g3 (hH r h))]; exact g1, g2, fun h => ?_⟩
  rcases hm r h with h | h
  · exact g3 h
  · omega

structure Rel (B : Base) (s : DS) (a : Act) (w : World) (loc : Nat → Loc) : Prop where
  st : St s.own loc B.M0 w.heap
  upd : Upd (hotOf B.own0 B.loc0) B.w0 w
  new : ∀ b ∈ hotOf s.own loc, b ∈ hotOf B.own0 B.loc0 ∨ B.w0.heap.size ≤ b
  ver : ∀ e ∈ s.own, e.r < B.N → curOf B.own0 B.loc0 e.id e.r = some (loc e.id)
  sl : ∀ i, rd (curOf s.own loc) (hotOf s.own loc ++ B.M0) w.heap (getS s.slots i) (a.tmps.getD i Go.undef)
  nt : a.tmps.size = B.nt
  df : DfOK B (hotOf s.own loc ++ B.M0) a w.heap

theorem findE_mem {own : List Ent} {id : Nat} {e : Ent} (h : findE own id = some e) : e ∈ own ∧ e.id = id := by
  induction own with
  | nil => simp [findE] at h
  | cons a t ih =>
    simp only [findE] at h
    split at h
    · simp only [Option.some.injEq] at h; subst h; exact ⟨List.mem_cons_self, by assumption⟩
    · have := ih h; exact ⟨List.mem_cons_of_mem _ this.1, this.2⟩

theorem findE_of_mem {own : List Ent} (nd : (own.map (·.id)).Nodup) {e : Ent} (h : e ∈ own) : findE own e.id = some e := by
  induction own with
  | nil => cases h
  | cons a t ih =>
    simp only [List.map_cons, List.nodup_cons] at nd
    simp only [findE]
    rcases List.mem_cons.1 h with rfl | h
    · simp
    · rw [if_neg, ih nd.2 h]
      intro he
      exact nd.1 (he ▸ List.mem_map_of_mem (f := (·.id)) h)

theorem curOf_some {own : List Ent} {loc : Nat → Loc} {id r : Nat} {l : Loc} (h : curOf own loc id r = some l) : ∃ e ∈ own, e.id = id ∧ e.r = r ∧ l = loc id := by
  unfold curOf at h
  split at h
  · rename_i e he
    split at h
    · simp only [Option.some.injEq] at h
      obtain ⟨h1, h2⟩ := findE_mem he
      exact ⟨e, h1, h2, by assumption, h.symm⟩
    · simp at h
  · simp at h

theorem mem_hot {own : List Ent} {loc : Nat → Loc} {e : Ent} {b : Nat} (h : e ∈ own) (hb : b ∈ (loc e.id).blks) : b ∈ hotOf own loc :=
  List.mem_flatMap.2 ⟨e, h, hb⟩

/-- A datum is kept from one state of memory to the next one. -/
theorem weak_step {own own' : List Ent} {loc loc' : Nat → Loc} {M0 : List Nat} {w w' : World} {n : Nat}
    (hupd : Upd (hotOf own loc) w w') (hnew : ∀ b ∈ hotOf own' loc', b ∈ hotOf own loc ∨ w.heap.size ≤ b)
    (hver : ∀ e ∈ own', e.r < n → curOf own loc e.id e.r = some (loc' e.id)) :
    Weak (curOf own loc) (curOf own' loc') (hotOf own loc ++ M0) (hotOf own' loc' ++ M0) w.heap w'.heap n where
  c := by
    intro id r l hr hl
    obtain ⟨e, he, rfl, rfl, rfl⟩ := curOf_some hl
    exact hver e he hr
  b := by
    intro b o hb _ ho
    have hlt : b < w.heap.size := (Array.getElem?_eq_some_iff.1 ho).1
    rw [hupd.blk b hlt (fun h => hb (List.mem_append_left _ h))]
    exact ho
  m := by
    intro b o hb _ ho hm
    have hlt : b < w.heap.size := (Array.getElem?_eq_some_iff.1 ho).1
    rcases List.mem_append.1 hm with h | h
    · rcases hnew b h with h1 | h1
      · exact hb (List.mem_append_left _ h1)
      · omega
    · exact hb (List.mem_append_right _ h)

theorem getD_put (a : Act) (dst : Option Nat) (v : Value) (i : Nat) (hd : ∀ d, dst = some d → d < a.tmps.size) :
    (a.put dst v).tmps.getD i Go.undef = if dst = some i then v else a.tmps.getD i Go.undef := by
  cases dst with
  | none => simp [Act.put]
  | some d =>
    have := hd d rfl
    simp only [Act.put, Array.getD_eq_getD_getElem?, Array.getElem?_setIfInBounds, Option.some.injEq]
    by_cases h : d = i
    · subst h; simp [this]
    · simp [h]

theorem size_put (a : Act) (dst : Option Nat) (v : Value) : (a.put dst v).tmps.size = a.tmps.size := by
  cases dst <;> simp [Act.put]

theorem defers_put (a : Act) (dst : Option Nat) (v : Value) : (a.put dst v).defers = a.defers := by
  cases dst <;> rfl

def putS (l : List (Nat × DVal)) : Option Nat → DVal → List (Nat × DVal)
  | some i, d => (i, d) :: l
  | none, _ => l

/-- THE STEP: an operation has yielded v, which reads as d; memory has turned as said. -/
theorem Rel.step {B : Base} {s : DS} {a : Act} {w w' : World} {loc loc' : Nat → Loc} {own' : List Ent} {n : Nat} {v : Value} {d : DVal} {dst : Option Nat}
    (R : Rel B s a w loc) (hn : B.N ≤ n) (hs : mxS s.slots ≤ n) (hdst : ∀ i, dst = some i → i < B.nt)
    (hst : St own' loc' B.M0 w'.heap) (hupd : Upd (hotOf s.own loc) w w')
    (hnew : ∀ b ∈ hotOf own' loc', b ∈ hotOf s.own loc ∨ w.heap.size ≤ b)
    (hver : ∀ e ∈ own', e.r < n → curOf s.own loc e.id e.r = some (loc' e.id))
    (hd : rd (curOf own' loc') (hotOf own' loc' ++ B.M0) w'.heap d v) :
    Rel B ⟨putS s.slots dst d, own'⟩ (a.put dst v) w' loc' where
  st := hst
  upd := R.upd.trans hupd R.new
  new := by
    intro b hb
    rcases hnew b hb with h | h
    · exact R.new b h
    · exact .inr (Nat.le_trans R.upd.size h)
  ver := by
    intro e he hr
    obtain ⟨e', he', h1, h2, h3⟩ := curOf_some (hver e he (Nat.lt_of_lt_of_le hr hn))
    have := R.ver e' he' (by omega)
    rw [h1, h2] at this
    rw [this, h3]
  sl := by
    intro i
    have hget := getD_put a dst v i (fun d hd => by rw [R.nt]; exact hdst d hd)
    rw [hget]
    have W := weak_step (M0 := B.M0) hupd hnew hver
    have hold : rd (curOf own' loc') (hotOf own' loc' ++ B.M0) w'.heap (getS s.slots i) (a.tmps.getD i Go.undef) :=
      rd_weak W _ _ (Nat.le_trans (mx_getS _ _) hs) (R.sl i)
    cases dst with
    | none => simpa [putS] using hold
    | some j =>
      simp only [putS, getS]
      by_cases hij : i = j
      · subst hij; simpa using hd
      · rw [if_neg hij, if_neg (fun h => hij (Option.some.inj h).symm)]; exact hold
  nt := by rw [size_put]; exact R.nt
  df := by
    refine R.df.keep (defers_put a dst v) hupd (fun x hx => List.mem_append_left _ hx) ?_
    intro b hb
    rcases List.mem_append.1 hb with h | h
    · rcases hnew b h with h | h
      · exact .inl (List.mem_append_left _ h)
      · exact .inr h
    · exact .inl (List.mem_append_right _ h)

theorem St.keep {own : List Ent} {loc : Nat → Loc} {M0 : List Nat} {w w' : World} (h : St own loc M0 w.heap) (u : Upd [] w w') : St own loc M0 w'.heap where
  nd := h.nd
  bl := h.bl
  ap := h.ap
  lt := fun b hb => Nat.lt_of_lt_of_le (h.lt b hb) u.size
  ok := by
    intro e he
    have W : Weak (curOf own loc) (curOf own loc) (hotOf own loc ++ M0) (hotOf own loc ++ M0) w.heap w'.heap (mxO e.obj) := by
      refine weak_step u.nil (fun b hb => .inl hb) ?_
      intro e' he' _
      unfold curOf
      rw [findE_of_mem h.nd he']
      simp
    have hb : ∀ b o, w.heap[b]? = some o → w'.heap[b]? = some o := fun b o ho => by
      rw [u.blk b (Array.getElem?_eq_some_iff.1 ho).1 (by simp)]; exact ho
    exact ObjOK_weak W (Nat.le_refl _) (fun b o _ ho => hb b o ho) (h.ok e he)

theorem curOf_self {own : List Ent} {loc : Nat → Loc} (nd : (own.map (·.id)).Nodup) {e : Ent} (he : e ∈ own) : curOf own loc e.id e.r = some (loc e.id) := by
  unfold curOf
  rw [findE_of_mem nd he]
  simp

/-- A step in which own objects stay as they are. -/
theorem Rel.put {B : Base} {s : DS} {a : Act} {w w' : World} {loc : Nat → Loc} {v : Value} {d : DVal} {dst : Option Nat}
    (R : Rel B s a w loc) (hdst : ∀ i, dst = some i → i < B.nt) (hupd : Upd [] w w')
    (hd : rd (curOf s.own loc) (hotOf s.own loc ++ B.M0) w'.heap d v) : Rel B ⟨putS s.slots dst d, s.own⟩ (a.put dst v) w' loc :=
  R.step (n := max B.N (mxS s.slots)) (by omega) (by omega) hdst (R.st.keep hupd) hupd.nil (fun b hb => .inl hb) (fun e he _ => curOf_self R.st.nd he) hd

end Go.Dm
end

section
/- The data machine, second make, part C: operations that compute, load, build: what they yield, and that they do. -/


set_option linter.unusedSimpArgs false
set_option linter.unusedVariables false
namespace Go.Dm

section
variable (P : Program)
def tAgg (t : TypeId) : Option Bool :=
  match P.underlying t with
  | some (.struct _) => some true
  | some (.array _ _) => some true
  | some _ => some false
  | none => none
def tCells (t : TypeId) : Option Nat := (P.info? t).map (·.size)
def tField (t f : Nat) : Option (Nat × Nat × Bool) :=
  match P.underlying t with
  | some (.struct fs) =>
    match fs[f]? with
    | some fl => match tCells P fl.type, tAgg P fl.type with
      | some n, some b => some (fl.offset, n, b)
      | _, _ => none
    | none => none
  | _ => none
def tElem (t : TypeId) : Option (Nat × Nat) :=
  match P.underlying t with
  | some (.slice e) => (P.info? e).map fun i => (i.size, i.bytes)
  | _ => none
end

instance (k : IntKind) (n : Int) : Decidable (inR k n) := by cases k <;> unfold inR <;> infer_instance

/-- A constant's cell as a datum. -/
def ofV1 : Value → DVal
  | .bool b => .bool b
  | .int k n => if inR k n then .int k n else .any
  | .string s => if s.size ≤ maxLen then .str s else .any
  | .pointer none => .nilp
  | .slice none 0 0 => .nilsl
  | .map none => .nilmp
  | .nilFunc => .nilfn
  | .nilIface => .nilifc
  | _ => .any
def ofV : Value → DVal
  | .agg cs => .agg (cs.toList.map ofV1)
  | v => ofV1 v

def ev (l : List (Nat × DVal)) : Operand → DVal
  | .tmp t => getS l t
  | .const v => ofV v
  | .global _ => .any
  | .func f => .fn (.func f) [] []

/-- The cells at an address. -/
def cellsAt (own : List Ent) : DVal → Option (List DVal)
  | .ref cs => some cs
  | .bx id r off => match findE own id with
    | some e => if e.r = r then (match e.obj with | .box cs => some (cs.drop off) | _ => none) else none
    | none => none
  | .rx id r k i j => match findE own id with
    | some e => if e.r = r then (match e.obj with | .row _ k' _ es => if k = k' then (es[i]?).map (·.drop j) else none | _ => none) else none
    | none => none
  | _ => none

/-- The rows of a slice: cells an element, bytes an element, the rows. -/
def rowsOf (own : List Ent) : DVal → Option (Nat × Nat × List (List DVal))
  | .sl k bs es => some (k, bs, es)
  | .osl id r => match findE own id with
    | some e => if e.r = r then (match e.obj with | .row _ k bs es => some (k, bs, es) | _ => none) else none
    | none => none
  | .vw id r k bs i n => match findE own id with
    | some e => if e.r = r then (match e.obj with | .row _ k' bs' es => if k' = k ∧ bs' = bs ∧ i + n ≤ es.length then some (k, bs, (es.drop i).take n) else none | _ => none) else none
    | none => none
  | _ => none

section
variable {P : Program} {cur : Cur} {M : List Nat} {h : Array Obj}

theorem rd_ofV1 (v : Value) : rd cur M h (ofV1 v) v := by
  unfold ofV1
  split <;> (try split) <;> simp_all [rd]

theorem rdV_map_ofV1 : ∀ l : List Value, rdV cur M h (l.map ofV1) l
  | [] => by simp [rdV]
  | v :: l => by
    simp only [List.map_cons, rdV]
    exact ⟨v, l, rfl, rd_ofV1 v, rdV_map_ofV1 l⟩

theorem rd_ofV (v : Value) : rd cur M h (ofV v) v := by
  unfold ofV
  split
  · simp only [rd]; exact ⟨_, rfl, rdV_map_ofV1 _⟩
  · exact rd_ofV1 v

theorem rdC_drop : ∀ (n : Nat) (cs : List DVal) (arr : Array Value) (o : Nat), rdC cur M h cs arr o → rdC cur M h (cs.drop n) arr (o + n)
  | 0, cs, arr, o, hr => by simpa using hr
  | n + 1, [], arr, o, hr => by simp [rdC]
  | n + 1, d :: cs, arr, o, hr => by
    simp only [rdC] at hr
    simpa [Nat.add_assoc, Nat.add_comm 1 n] using rdC_drop n cs arr (o + 1) hr.2

theorem rdC_vals : ∀ (cs : List DVal) (arr : Array Value) (o : Nat), rdC cur M h cs arr o → ∃ vs : List Value, vs.length = cs.length ∧ rdV cur M h cs vs ∧ ∀ j v, vs[j]? = some v → arr[o + j]? = some v ∧ v.oneCell' = true
  | [], arr, o, _ => ⟨[], rfl, by simp [rdV], by simp⟩
  | d :: cs, arr, o, hr => by
    simp only [rdC] at hr
    obtain ⟨⟨v, h1, h2, h3⟩, h4⟩ := hr
    obtain ⟨vs, g1, g2, g3⟩ := rdC_vals cs arr (o + 1) h4
    refine ⟨v :: vs, by simp [g1], by simp only [rdV]; exact ⟨v, vs, rfl, h3, g2⟩, ?_⟩
    intro j u hj
    cases j with
    | zero => simp only [List.getElem?_cons_zero, Option.some.injEq] at hj; subst hj; exact ⟨h1, h2⟩
    | succ j =>
      simp only [List.getElem?_cons_succ] at hj
      have := g3 j u hj
      rwa [show o + 1 + j = o + (j + 1) by omega] at this

theorem rdC_take : ∀ (n : Nat) (cs : List DVal) (arr : Array Value) (o : Nat), rdC cur M h cs arr o → rdC cur M h (cs.take n) arr o
  | 0, cs, arr, o, _ => by simp [rdC]
  | n + 1, [], arr, o, _ => by simp [rdC]
  | n + 1, d :: cs, arr, o, hr => by
    simp only [rdC, List.take_succ_cons] at hr ⊢
    exact ⟨hr.1, rdC_take n cs arr (o + 1) hr.2⟩

theorem rdR_at : ∀ (k : Nat) (es : List (List DVal)) (arr : Array Value) (o i : Nat) (cs : List DVal), rdR cur M h k es arr o → es[i]? = some cs → cs.length = k ∧ rdC cur M h cs arr (o + i * k)
  | k, [], arr, o, i, cs, _, hi => by simp at hi
  | k, c :: es, arr, o, 0, cs, hr, hi => by
    simp only [List.getElem?_cons_zero, Option.some.injEq] at hi
    subst hi
    simp only [rdR] at hr
    exact ⟨hr.1, by simpa using hr.2.1⟩
  | k, c :: es, arr, o, i + 1, cs, hr, hi => by
    simp only [List.getElem?_cons_succ] at hi
    simp only [rdR] at hr
    have := rdR_at k es arr (o + k) i cs hr.2.2 hi
    rwa [show o + k + i * k = o + (i + 1) * k by rw [Nat.add_mul]; omega] at this

theorem rdR_mk : ∀ (k : Nat) (es : List (List DVal)) (arr : Array Value) (o : Nat), (∀ (i : Nat) (cs : List DVal), es[i]? = some cs → cs.length = k ∧ rdC cur M h cs arr (o + i * k)) → rdR cur M h k es arr o
  | _, [], _, _, _ => by simp [rdR]
  | k, c :: es, arr, o, hr => by
    simp only [rdR]
    refine ⟨(hr 0 c (by simp)).1, by simpa using (hr 0 c (by simp)).2, rdR_mk k es arr (o + k) fun i cs hi => ?_⟩
    have := hr (i + 1) cs (by simpa using hi)
    rwa [show o + (i + 1) * k = o + k + i * k by rw [Nat.add_mul]; omega] at this

end

section
variable {P : Program} {s : DS} {loc : Nat → Loc} {M0 : List Nat} {w : World}

abbrev cu (s : DS) (loc : Nat → Loc) : Cur := curOf s.own loc
abbrev hm (s : DS) (loc : Nat → Loc) (M0 : List Nat) : List Nat := hotOf s.own loc ++ M0

theorem cellsAt_ok (S : St s.own loc M0 w.heap) {p : DVal} {v : Value} {cs : List DVal} (hp : rd (cu s loc) (hm s loc M0) w.heap p v) (hc : cellsAt s.own p = some cs) :
    ∃ b off arr ty fz, v = .pointer (some ⟨b, off, none⟩) ∧ w.heap[b]? = some (.cells arr ty fz) ∧ rdC (cu s loc) (hm s loc M0) w.heap cs arr off := by
  unfold cellsAt at hc
  split at hc
  · simp only [Option.some.injEq] at hc; subst hc
    simp only [rd] at hp
    obtain ⟨b, off, arr, ty, fz, h1, _, h3, h4⟩ := hp
    exact ⟨b, off, arr, ty, fz, h1, h3, h4⟩
  · rename_i id r off
    split at hc
    · rename_i e he
      split at hc
      · rename_i her
        split at hc
        · rename_i cs0 hobj
          simp only [Option.some.injEq] at hc; subst hc
          obtain ⟨hm', hid⟩ := findE_mem he
          have hk := S.ok e hm'
          rw [hobj] at hk
          obtain ⟨b, arr, ty, h1, h2, h3, h4⟩ := hk
          simp only [rd] at hp
          obtain ⟨b', hb', hv⟩ := hp (loc id) (by unfold cu curOf; rw [he]; simp [her])
          rw [← hid, h1] at hb'
          simp only [List.cons.injEq, and_true] at hb'; subst hb'
          refine ⟨b, off, arr, ty, (0, 0), hv, h2, ?_⟩
          simpa using rdC_drop off cs0 arr 0 h4
        · simp at hc
      · simp at hc
    · simp at hc
  · rename_i id r k i j
    split at hc
    · rename_i e he
      split at hc
      · rename_i her
        split at hc
        · rename_i et k' bs es hobj
          split at hc
          · rename_i hkk
            subst hkk
            obtain ⟨hm', hid⟩ := findE_mem he
            have hk := S.ok e hm'
            rw [hobj] at hk
            obtain ⟨_, hk⟩ := hk
            simp only [Option.map_eq_some_iff] at hc
            obtain ⟨c0, hc0, rfl⟩ := hc
            rcases hk with ⟨rfl, _⟩ | ⟨b, arr, cap, h1, h2, h3, h4, h5, h6, h7⟩
            · simp at hc0
            · simp only [rd] at hp
              obtain ⟨b', hb', hv⟩ := hp (loc id) (by unfold cu curOf; rw [he]; simp [her])
              rw [← hid, h1] at hb'
              simp only [List.cons.injEq, and_true] at hb'; subst hb'
              have := rdR_at k es arr 0 i c0 h7 hc0
              refine ⟨b, i * k + j, arr, et, (0, 0), hv, h3, ?_⟩
              have h8 := rdC_drop j c0 arr _ this.2
              simpa using h8
          · simp at hc
        · simp at hc
      · simp at hc
    · simp at hc
  · simp at hc

theorem rowsOf_ok (S : St s.own loc M0 w.heap) {p : DVal} {v : Value} {k bs : Nat} {es : List (List DVal)} (hp : rd (cu s loc) (hm s loc M0) w.heap p v) (hc : rowsOf s.own p = some (k, bs, es)) :
    ∃ a cap, v = .slice a es.length cap ∧ es.length ≤ cap ∧ cap ≤ maxLen ∧ es.length * bs ≤ 150000000000000 ∧
      (es = [] ∨ ∃ b off arr ty fz, a = some ⟨b, off, none⟩ ∧ w.heap[b]? = some (.cells arr ty fz) ∧ rdR (cu s loc) (hm s loc M0) w.heap k es arr off) := by
  unfold rowsOf at hc
  split at hc
  · simp only [Option.some.injEq, Prod.mk.injEq] at hc
    obtain ⟨rfl, rfl, rfl⟩ := hc
    simp only [rd] at hp
    obtain ⟨a, cap, h1, h2, h3, h4, h5⟩ := hp
    refine ⟨a, cap, h1, h2, h3, h4, ?_⟩
    rcases h5 with h5 | ⟨b, off, arr, ty, fz, g1, g2, g3, g4⟩
    · exact .inl h5.1
    · exact .inr ⟨b, off, arr, ty, fz, g1, g3, g4⟩
  · rename_i id r
    split at hc
    · rename_i e he
      split at hc
      · rename_i her
        split at hc
        · rename_i et k' bs' es' hobj
          simp only [Option.some.injEq, Prod.mk.injEq] at hc
          obtain ⟨rfl, rfl, rfl⟩ := hc
          obtain ⟨hm', hid⟩ := findE_mem he
          have hk := S.ok e hm'
          rw [hobj] at hk
          obtain ⟨hbs, hk⟩ := hk
          simp only [rd] at hp
          have hv := hp (loc id) (by unfold cu curOf; rw [he]; simp [her])
          rw [← hid] at hv
          rcases hk with ⟨rfl, _, h2⟩ | ⟨b, arr, cap, h1, h2, h3, h4, h5, h6, h7⟩
          · refine ⟨none, 0, by rw [hv, h2]; rfl, by simp, by unfold maxLen; omega, by simp, .inl rfl⟩
          · exact ⟨_, cap, by rw [hv, h2], h4, h5, hbs, .inr ⟨b, 0, arr, et, (0, 0), rfl, h3, h7⟩⟩
        · simp at hc
      · simp at hc
    · simp at hc
  · rename_i id r k0 bs0 i n
    split at hc
    · rename_i e he
      split at hc
      · rename_i her
        split at hc
        · rename_i et k' bs' es' hobj
          split at hc
          · rename_i hb
            obtain ⟨rfl, rfl, hb⟩ := hb
            simp only [Option.some.injEq, Prod.mk.injEq] at hc
            obtain ⟨rfl, rfl, rfl⟩ := hc
            obtain ⟨hm', hid⟩ := findE_mem he
            have hk := S.ok e hm'
            rw [hobj] at hk
            obtain ⟨hbs, hk⟩ := hk
            simp only [rd] at hp
            obtain ⟨a, cap, rfl, g1, g2, _, g3, _⟩ := hp (loc id) (by unfold cu curOf; rw [he]; simp [her])
            have hlen : ((es'.drop i).take n).length = n := by simp; omega
            refine ⟨a, cap, by rw [hlen], by omega, g2, by rw [hlen]; exact Nat.le_trans (Nat.mul_le_mul_right _ (by omega : n ≤ es'.length)) hbs, ?_⟩
            by_cases h0 : n = 0
            · subst h0; exact .inl (by simp)
            · obtain ⟨b, hb1, rfl⟩ := g3 (by omega)
              rw [← hid] at hb1
              rcases hk with ⟨rfl, _⟩ | ⟨b', arr, cap', h1, h2, h3, h4, h5, h6, h7⟩
              · simp at hb; omega
              · rw [h1] at hb1
                simp only [List.cons.injEq, and_true] at hb1
                subst hb1
                refine .inr ⟨b', i * k', arr, et, (0, 0), rfl, h3, rdR_mk _ _ _ _ fun q cs hq => ?_⟩
                rw [List.getElem?_take] at hq
                split at hq
                · rw [List.getElem?_drop] at hq
                  have := rdR_at k' es' arr 0 (i + q) cs h7 hq
                  rwa [Nat.add_mul, Nat.zero_add] at this
                · simp at hq
          · simp at hc
        · simp at hc
      · simp at hc
    · simp at hc
  · simp at hc

theorem rd_ev {a : Act} (hs : ∀ i, rd (cu s loc) (hm s loc M0) w.heap (getS s.slots i) (a.tmps.getD i Go.undef)) (x : Operand) :
    rd (cu s loc) (hm s loc M0) w.heap (ev s.slots x) (a.eval x) := by
  cases x with
  | tmp t => exact hs t
  | const v => exact rd_ofV v
  | global g => simp [ev, rd]
  | func f => simp only [ev, rd, Act.eval]; exact ⟨#[], #[], rfl, by simp [rdV], by simp [rdV]⟩

theorem run_isAgg {t : TypeId} {b : Bool} (ht : tAgg P t = some b) (w : World) : (isAgg t).run P w = .ok b w := by
  unfold isAgg
  cases hu : P.underlying t with
  | none => simp [tAgg, hu] at ht
  | some d =>
    rw [Sem.run_bind, run_underlying hu w]
    cases d <;> simp [tAgg, hu] at ht <;> subst ht <;> rfl

theorem run_sizeOf' {t : TypeId} {n : Nat} (ht : tCells P t = some n) (w : World) : (sizeOf t).run P w = .ok n w := by
  unfold tCells at ht
  cases hi : P.info? t with
  | none => simp [hi] at ht
  | some i =>
    simp only [hi, Option.map_some, Option.some.injEq] at ht
    simp [sizeOf, typeInfo, hi, ht]

theorem add_lit (b o n : Nat) : Addr.add ⟨b, o, none⟩ n = ⟨b, o + n, none⟩ := by unfold Addr.add; split <;> simp_all
end
end Go.Dm
end

section
/- The data machine, second make, part D: what the neutral operations ask and yield; each is carried out as said. -/


set_option linter.unusedSimpArgs false
set_option linter.unusedVariables false
namespace Go.Dm

section
variable (P : Program)
def tInt (t : TypeId) : Option IntKind := match P.underlying t with | some (.int k) => some k | _ => none
def tStr (t : TypeId) : Bool := match P.underlying t with | some .string => true | _ => false
def tBool (t : TypeId) : Bool := match P.underlying t with | some .bool => true | _ => false
def tSl (t : TypeId) : Bool := match P.underlying t with | some (.slice _) => true | _ => false
def tPtr (t : TypeId) : Bool := match P.underlying t with | some (.pointer _) => true | _ => false
def tZero (t : TypeId) : Option (List DVal) := match P.info? t with
  | some i => i.zero.map fun v => v.cells.toList.map ofV1
  | none => none
def tStruct (t : TypeId) : Option (Array Field) := match P.underlying t with | some (.struct fs) => some fs | _ => none
end

/-- The flat kinds of a type's cells, where '==' looks at each. -/
inductive CK where
  | b
  | i (k : IntKind)
  | s

section
variable (P : Program)
def flatF (g : TypeId → Option (List CK)) : Nat → List Field → Option (List CK)
  | _, [] => some []
  | o, f :: fs => if f.name = "_" then none else if f.offset ≠ o then none else
    match g f.type with
    | some ks => if tCells P f.type = some ks.length then (flatF g (o + ks.length) fs).map (ks ++ ·) else none
    | none => none
def flat : Nat → TypeId → Option (List CK)
  | 0, _ => none
  | d + 1, t => match P.underlying t with
    | some .bool => some [.b]
    | some (.int k) => some [.i k]
    | some .string => some [.s]
    | some (.struct fs) => if P.stoodInHeld t then none else flatF P (flat d) 0 fs.toList
    | _ => none
end

def ckOf : CK → DVal → Bool
  | .b, .bool _ => true
  | .i k, .int k' _ => k == k'
  | .s, .str _ => true
  | _, _ => false

def ckAll : List CK → List DVal → Bool
  | [], [] => true
  | k :: ks, d :: ds => ckOf k d && ckAll ks ds
  | _, _ => false

/-- '==' of two cells of one flat kind. -/
def eqC : DVal → DVal → Bool
  | .bool a, .bool b => a == b
  | .int _ a, .int _ b => a == b
  | .str a, .str b => a == b
  | _, _ => false
def eqCs : List DVal → List DVal → Bool
  | [], [] => true
  | x :: xs, y :: ys => eqC x y && eqCs xs ys
  | _, _ => false

/-- bits and shifts of integers -/
def iAnd (k : IntKind) (a b : Int) : Int := k.wrap (BitVec.ofInt k.bits a &&& BitVec.ofInt k.bits b).toNat
def iOr (k : IntKind) (a b : Int) : Int := k.wrap (BitVec.ofInt k.bits a ||| BitVec.ofInt k.bits b).toNat
def iXor (k : IntKind) (a b : Int) : Int := k.wrap (BitVec.ofInt k.bits a ^^^ BitVec.ofInt k.bits b).toNat
def iAndNot (k : IntKind) (a b : Int) : Int := k.wrap (BitVec.ofInt k.bits a &&& ~~~(BitVec.ofInt k.bits b)).toNat
def iShl (k : IntKind) (a b : Int) : Int := k.wrap (a * 2 ^ (min b.toNat k.bits))
def iShr (k : IntKind) (a b : Int) : Int := a.fdiv (2 ^ (min b.toNat k.bits))

/-- Two operands' result, where it is plain. -/
def dbin (P : Program) (op : BinOp) (t : TypeId) : DVal → DVal → Option DVal
  | .int k a, .int k' b => match op with
    | .shl => if b < 0 then none else some (.int k (iShl k a b))
    | .shr => if b < 0 then none else some (.int k (iShr k a b))
    | _ => if k ≠ k' then none else match op with
      | .add => some (.int k (k.wrap (a + b)))
      | .sub => some (.int k (k.wrap (a - b)))
      | .mul => some (.int k (k.wrap (a * b)))
      | .quo => if b = 0 then none else some (.int k (k.wrap (a.tdiv b)))
      | .rem => if b = 0 then none else some (.int k (a.tmod b))
      | .and => some (.int k (iAnd k a b))
      | .or => some (.int k (iOr k a b))
      | .xor => some (.int k (iXor k a b))
      | .andNot => some (.int k (iAndNot k a b))
      | .eql => some (.bool (a == b))
      | .neq => some (.bool (a != b))
      | .lss => some (.bool (decide (a < b)))
      | .leq => some (.bool (decide (a ≤ b)))
      | .gtr => some (.bool (decide (b < a)))
      | .geq => some (.bool (decide (b ≤ a)))
      | _ => none
  | .str a, .str b => match op with
    | .add => if a.size + b.size ≤ maxLen then some (.str (a ++ b)) else none
    | .eql => some (.bool (a == b))
    | .neq => some (.bool (!(a == b)))
    | .lss => some (.bool (Op.bytesLess a.data.toList b.data.toList))
    | .leq => some (.bool (Op.bytesLess a.data.toList b.data.toList || a == b))
    | .gtr => some (.bool (!(Op.bytesLess a.data.toList b.data.toList || a == b)))
    | .geq => some (.bool (!Op.bytesLess a.data.toList b.data.toList))
    | _ => none
  | .bool a, .bool b => if tBool P t then (match op with
    | .eql => some (.bool (a == b))
    | .neq => some (.bool (!(a == b)))
    | _ => none) else none
  | .agg xs, .agg ys => if P.eqGuardType P.depth t then none else if tAgg P t ≠ some true then none else match flat P 10000 t with
    | some ks => if ckAll ks xs && ckAll ks ys then (match op with
      | .eql => some (.bool (eqCs xs ys))
      | .neq => some (.bool (!eqCs xs ys))
      | _ => none) else none
    | none => none
  | .nilp, .nilp => if tPtr P t then (match op with | .eql => some (.bool true) | .neq => some (.bool false) | _ => none) else none
  | .nilsl, .nilsl => if tSl P t then (match op with | .eql => some (.bool true) | .neq => some (.bool false) | _ => none) else none
  | .esl, .nilsl => if tSl P t then (match op with | .eql => some (.bool false) | .neq => some (.bool true) | _ => none) else none
  | .sl _ _ (_ :: _), .nilsl => if tSl P t then (match op with | .eql => some (.bool false) | .neq => some (.bool true) | _ => none) else none
  | .ref _, .nilp => if tPtr P t then (match op with | .eql => some (.bool false) | .neq => some (.bool true) | _ => none) else none
  | _, _ => none

theorem wrap_inR (k : IntKind) (n : Int) : inR k (k.wrap n) := by
  cases k <;> simp only [IntKind.wrap, IntKind.bits, IntKind.signed, inR] <;> simp <;> (try split) <;> omega

section
variable {P : Program} {cur : Cur} {M : List Nat} {h : Array Obj} {w : World}

theorem beqS (a b : ByteArray) : (a.toList == b.toList) = (a == b) := (beq_toListBytes a b).symm

theorem run_equal_flat1 {d : Nat} {t : TypeId} {c : CK} {x y : DVal} {u v : Value} (hf : flat P (d + 1) t = some [c]) (hns : tStruct P t = none) (hx : ckOf c x = true) (hy : ckOf c y = true)
    (rx : rd cur M h x u) (ry : rd cur M h y v) : (Op.equalIn (d + 1) t u v).run P w = .ok (eqC x y) w := by
  simp only [flat] at hf
  split at hf <;> rename_i hu
  · simp only [Option.some.injEq, List.cons.injEq, and_true] at hf; subst hf
    cases x <;> simp [ckOf] at hx
    cases y <;> simp [ckOf] at hy
    simp only [rd] at rx ry
    subst rx; subst ry
    simpa [eqC] using run_equalIn_bool' (P := P) w d t _ _ hu
  · simp only [Option.some.injEq, List.cons.injEq, and_true] at hf; subst hf
    cases x <;> simp [ckOf] at hx
    cases y <;> simp [ckOf] at hy
    simp only [rd] at rx ry
    obtain ⟨rfl, _⟩ := rx; obtain ⟨rfl, _⟩ := ry
    subst hx; subst hy
    simpa [eqC] using run_equalIn_int (P := P) w d t _ _ _ _ hu
  · simp only [Option.some.injEq, List.cons.injEq, and_true] at hf; subst hf
    cases x <;> simp [ckOf] at hx
    cases y <;> simp [ckOf] at hy
    simp only [rd] at rx ry
    obtain ⟨rfl, _⟩ := rx; obtain ⟨rfl, _⟩ := ry
    rw [run_equalIn_string (P := P) w d t _ _ hu, beqS]; rfl
  · simp [tStruct, hu] at hns
  · simp at hf

theorem eqCs_append : ∀ (a b c d : List DVal), a.length = b.length → eqCs (a ++ c) (b ++ d) = (eqCs a b && eqCs c d)
  | [], [], _, _, _ => by simp [eqCs]
  | x :: a, y :: b, c, d, h => by
    simp only [List.cons_append, eqCs, eqCs_append a b c d (by simpa using h), Bool.and_assoc]

theorem ckAll_length : ∀ (ks : List CK) (ds : List DVal), ckAll ks ds = true → ds.length = ks.length
  | [], [], _ => rfl
  | [], _ :: _, h => by simp [ckAll] at h
  | _ :: _, [], h => by simp [ckAll] at h
  | k :: ks, d :: ds, h => by
    simp only [ckAll, Bool.and_eq_true] at h
    simp [ckAll_length ks ds h.2]

theorem ckAll_split : ∀ (k1 k2 : List CK) (ds : List DVal), ckAll (k1 ++ k2) ds = true → ckAll k1 (ds.take k1.length) = true ∧ ckAll k2 (ds.drop k1.length) = true
  | [], k2, ds, h => by simpa [ckAll] using h
  | k :: k1, k2, [], h => by simp [ckAll] at h
  | k :: k1, k2, d :: ds, h => by
    simp only [List.cons_append, ckAll, Bool.and_eq_true] at h
    have := ckAll_split k1 k2 ds h.2
    simpa [ckAll, h.1] using this

theorem rdV_length : ∀ (ds : List DVal) (vs : List Value), rdV cur M h ds vs → vs.length = ds.length
  | [], vs, hr => by simp only [rdV] at hr; subst hr; rfl
  | d :: ds, vs, hr => by
    simp only [rdV] at hr
    obtain ⟨v, r, rfl, _, h3⟩ := hr
    simp [rdV_length ds r h3]

theorem rdV_at : ∀ (ds : List DVal) (vs : List Value) (i : Nat) (d : DVal), rdV cur M h ds vs → ds[i]? = some d → ∃ v, vs[i]? = some v ∧ rd cur M h d v
  | [], vs, i, d, _, hi => by simp at hi
  | d :: ds, vs, 0, d', hr, hi => by
    simp only [rdV] at hr
    obtain ⟨v, r, rfl, h2, _⟩ := hr
    simp only [List.getElem?_cons_zero, Option.some.injEq] at hi; subst hi
    exact ⟨v, by simp, h2⟩
  | d :: ds, vs, i + 1, d', hr, hi => by
    simp only [rdV] at hr
    obtain ⟨v, r, rfl, _, h3⟩ := hr
    simpa using rdV_at ds r i d' h3 (by simpa using hi)

theorem rdV_drop : ∀ (n : Nat) (ds : List DVal) (vs : List Value), rdV cur M h ds vs → rdV cur M h (ds.drop n) (vs.drop n)
  | 0, ds, vs, hr => by simpa using hr
  | n + 1, [], vs, hr => by simp only [rdV] at hr; subst hr; simp [rdV]
  | n + 1, d :: ds, vs, hr => by
    simp only [rdV] at hr
    obtain ⟨v, r, rfl, _, h3⟩ := hr
    simpa using rdV_drop n ds r h3

theorem rdV_take : ∀ (n : Nat) (ds : List DVal) (vs : List Value), rdV cur M h ds vs → rdV cur M h (ds.take n) (vs.take n)
  | 0, ds, vs, hr => by simp [rdV]
  | n + 1, [], vs, hr => by simp only [rdV] at hr; subst hr; simp [rdV]
  | n + 1, d :: ds, vs, hr => by
    simp only [rdV] at hr
    obtain ⟨v, r, rfl, h2, h3⟩ := hr
    simp only [List.take_succ_cons, rdV]
    exact ⟨v, _, rfl, h2, rdV_take n ds r h3⟩

theorem rdV_append : ∀ (a b : List DVal) (u v : List Value), rdV cur M h a u → rdV cur M h b v → rdV cur M h (a ++ b) (u ++ v)
  | [], b, u, v, h1, h2 => by simp only [rdV] at h1; subst h1; simpa using h2
  | d :: a, b, u, v, h1, h2 => by
    simp only [rdV] at h1
    obtain ⟨x, r, rfl, h3, h4⟩ := h1
    simp only [List.cons_append, rdV]
    exact ⟨x, _, rfl, h3, rdV_append a b r v h4 h2⟩

/-- The value of a type over its cells. -/
def valOf (agg : Bool) (us : List Value) : Value := if agg then .agg us.toArray else us.headD Go.undef

theorem run_part {t : TypeId} {b : Bool} {n : Nat} {us : Array Value} {o : Nat} (hb : tAgg P t = some b) (hn : tCells P t = some n) (hn1 : b = false → n = 1) (hl : o + n ≤ us.size) :
    (part t us o).run P w = .ok (valOf b ((us.toList.drop o).take n)) w := by
  unfold part
  rw [Sem.run_bind, run_isAgg hb]
  cases b with
  | true =>
    simp only [Result.andThen_ok, if_true, Sem.run_bind, run_sizeOf' hn, Sem.run_pure, valOf]
    congr 2
    apply Array.ext'
    simp [List.extract, Nat.add_sub_cancel_left]
  | false =>
    have := hn1 rfl
    subst this
    have ho : o < us.size := by omega
    simp only [Result.andThen_ok, Bool.false_eq_true, if_false, Array.getElem?_eq_getElem ho, Sem.run_pure, valOf]
    congr 1
    rw [List.drop_eq_getElem_cons (by simpa using ho)]
    simp

theorem flat_agg {d : Nat} {t : TypeId} {ks : List CK} (hf : flat P d t = some ks) : ∃ b, tAgg P t = some b ∧ (b = false → ks.length = 1) ∧ (b = true → tStruct P t ≠ none) ∧ (b = false → tStruct P t = none) := by
  cases d with
  | zero => simp [flat] at hf
  | succ d =>
    simp only [flat] at hf
    split at hf <;> rename_i hu
    · exact ⟨false, by simp [tAgg, hu], fun _ => by simp only [Option.some.injEq] at hf; subst hf; rfl, by simp, fun _ => by simp [tStruct, hu]⟩
    · exact ⟨false, by simp [tAgg, hu], fun _ => by simp only [Option.some.injEq] at hf; subst hf; rfl, by simp, fun _ => by simp [tStruct, hu]⟩
    · exact ⟨false, by simp [tAgg, hu], fun _ => by simp only [Option.some.injEq] at hf; subst hf; rfl, by simp, fun _ => by simp [tStruct, hu]⟩
    · exact ⟨true, by simp [tAgg, hu], by simp, fun _ => by simp [tStruct, hu], by simp⟩
    · simp at hf

def FlatRuns (P : Program) (cur : Cur) (M : List Nat) (h : Array Obj) (d : Nat) : Prop :=
  ∀ (t : TypeId) (ks : List CK) (b : Bool) (xs ys : List DVal) (us vs : List Value) (w : World), flat P d t = some ks → tAgg P t = some b → ckAll ks xs = true → ckAll ks ys = true →
    rdV cur M h xs us → rdV cur M h ys vs → (Op.equalIn d t (valOf b us) (valOf b vs)).run P w = .ok (eqCs xs ys) w

theorem run_equal_fields {d : Nat} (H : FlatRuns P cur M h d) : ∀ (fs : List Field) (o : Nat) (ks : List CK) (xs ys : List DVal) (us0 vs0 us vs : List Value) (w : World), flatF P (flat P d) o fs = some ks → ckAll ks xs = true → ckAll ks ys = true →
    rdV cur M h xs us → rdV cur M h ys vs → us0.length = o → vs0.length = o → (Op.eqFields d (us0 ++ us).toArray (vs0 ++ vs).toArray fs).run P w = .ok (eqCs xs ys) w
  | [], o, ks, xs, ys, us0, vs0, us, vs, w, hf, hx, hy, _, _, _, _ => by
    simp only [flatF, Option.some.injEq] at hf; subst hf
    have e1 := ckAll_length [] xs hx
    have e2 := ckAll_length [] ys hy
    simp only [List.length_nil, List.length_eq_zero_iff] at e1 e2
    subst e1; subst e2
    simp [Op.eqFields, eqCs]
  | f :: fs, o, ks, xs, ys, us0, vs0, us, vs, w, hf, hx, hy, rx, ry, l1, l2 => by
    simp only [flatF] at hf
    split at hf
    · simp at hf
    rename_i hnm
    split at hf
    · simp at hf
    rename_i hof
    simp only [ne_eq, Decidable.not_not] at hof
    split at hf
    rotate_left
    · simp at hf
    rename_i k1 hk1
    split at hf
    rotate_left
    · simp at hf
    rename_i hsz
    simp only [Option.map_eq_some_iff] at hf
    obtain ⟨k2, hk2, rfl⟩ := hf
    obtain ⟨b, hb, hb1, _, _⟩ := flat_agg hk1
    have sx := ckAll_split k1 k2 xs hx
    have sy := ckAll_split k1 k2 ys hy
    have lx := ckAll_length _ _ hx
    have ly := ckAll_length _ _ hy
    have rlx := rdV_length _ _ rx
    have rly := rdV_length _ _ ry
    simp only [List.length_append] at lx ly
    have p1 := run_part (P := P) (w := w) (us := (us0 ++ us).toArray) (o := o) hb hsz hb1 (by simp; omega)
    have p2 := run_part (P := P) (w := w) (us := (vs0 ++ vs).toArray) (o := o) hb hsz hb1 (by simp; omega)
    have d1 : ((us0 ++ us).toArray.toList.drop o).take k1.length = us.take k1.length := by subst l1; simp
    have d2 : ((vs0 ++ vs).toArray.toList.drop o).take k1.length = vs.take k1.length := by subst l2; simp
    rw [d1] at p1
    rw [d2] at p2
    have e1 := H f.type k1 b (xs.take k1.length) (ys.take k1.length) _ _ w hk1 hb sx.1 sy.1 (rdV_take _ _ _ rx) (rdV_take _ _ _ ry)
    have ih := run_equal_fields H fs (o + k1.length) k2 (xs.drop k1.length) (ys.drop k1.length) (us0 ++ us.take k1.length) (vs0 ++ vs.take k1.length) (us.drop k1.length) (vs.drop k1.length) w hk2 sx.2 sy.2
      (rdV_drop _ _ _ rx) (rdV_drop _ _ _ ry) (by simp; omega) (by simp; omega)
    rw [List.append_assoc, List.append_assoc, List.take_append_drop, List.take_append_drop] at ih
    have heq : eqCs xs ys = (eqCs (xs.take k1.length) (ys.take k1.length) && eqCs (xs.drop k1.length) (ys.drop k1.length)) := by
      have ex := eqCs_append (xs.take k1.length) (ys.take k1.length) (xs.drop k1.length) (ys.drop k1.length) (by simp; omega)
      rwa [List.take_append_drop, List.take_append_drop] at ex
    simp only [Op.eqFields, ne_eq, hnm, not_false_eq_true, if_true, Sem.run_bind, hof, p1, p2, Result.andThen_ok, e1]
    rw [heq]
    cases hq : eqCs (xs.take k1.length) (ys.take k1.length)
    · simp
    · simp only [Bool.not_true, Bool.false_eq_true, if_false, Bool.true_and]
      exact ih

theorem run_equal_flat : ∀ (d : Nat), FlatRuns P cur M h d
  | 0 => by intro t ks b xs ys us vs w hf; simp [flat] at hf
  | d + 1 => by
    intro t ks b xs ys us vs w hf hb hx hy rx ry
    obtain ⟨b', hb', h1, h2, h3⟩ := flat_agg hf
    rw [hb] at hb'
    simp only [Option.some.injEq] at hb'
    subst hb'
    cases b with
    | false =>
      have hl := h1 rfl
      match ks, hl with
      | [c], _ =>
        match xs, ys, hx, hy with
        | [x], [y], hx, hy =>
          simp only [ckAll, Bool.and_true] at hx hy
          simp only [rdV] at rx ry
          obtain ⟨u, _, rfl, rx, rfl⟩ := rx
          obtain ⟨v, _, rfl, ry, rfl⟩ := ry
          simp only [valOf, Bool.false_eq_true, if_false, List.headD_cons]
          rw [run_equal_flat1 hf (h3 rfl) hx hy rx ry]
          simp [eqCs]
        | [], _, hx, _ => simp [ckAll] at hx
        | _ :: _ :: _, _, hx, _ => simp [ckAll] at hx
        | [_], [], _, hy => simp [ckAll] at hy
        | [_], _ :: _ :: _, _, hy => simp [ckAll] at hy
    | true =>
      have hst := h2 rfl
      obtain ⟨fs, hu⟩ : ∃ fs, P.underlying t = some (.struct fs) := by
        unfold tStruct at hst
        split at hst
        · exact ⟨_, by assumption⟩
        · simp at hst
      simp only [flat, hu] at hf
      split at hf
      · simp at hf
      rename_i hsi
      have hfo : P.fieldsOf t = fs := by simp [Program.fieldsOf, hu]
      simp only [valOf, if_true]
      rw [run_equalIn_struct w d t _ _ (by rw [hfo]; exact hu) (by simpa using hsi), hfo]
      exact run_equal_fields (run_equal_flat d) fs.toList 0 ks xs ys [] [] us vs w hf hx hy rx ry rfl rfl

theorem binOp_eql_ptr (t : TypeId) (a b : Option Addr) : binOp .eql t (.pointer a) (.pointer b) = (do pure (.bool (← Op.equal t (.pointer a) (.pointer b)))) := rfl
theorem binOp_neq_ptr (t : TypeId) (a b : Option Addr) : binOp .neq t (.pointer a) (.pointer b) = (do pure (.bool (!(← Op.equal t (.pointer a) (.pointer b))))) := rfl

theorem tPtr_some {t : TypeId} (hb : tPtr P t = true) : ∃ e, P.underlying t = some (.pointer e) := by
  unfold tPtr at hb
  split at hb
  · exact ⟨_, by assumption⟩
  · simp at hb

theorem run_equalIn_ptr_nil {t : TypeId} (hb : tPtr P t = true) (a : Option Addr) (d : Nat) : (Op.equalIn (d + 1) t (.pointer a) (.pointer none)).run P w = .ok a.isNone w := by
  obtain ⟨e, ht⟩ := tPtr_some hb
  cases a <;> simp [Op.equalIn, run_underlying ht]

theorem run_equal_ptr_nil {t : TypeId} (hb : tPtr P t = true) (a : Option Addr) : (Op.equal t (.pointer a) (.pointer none)).run P w = .ok a.isNone w :=
  run_equalIn_ptr_nil hb a 9999

theorem eqGuard_ptr (op : BinOp) (t : TypeId) (x y : Operand) (a b : Option Addr) : (eqGuard op t x y (.pointer a) (.pointer b)).run P w = .ok () w := by
  cases op <;> rfl

theorem dbin_sl {op : BinOp} {t : TypeId} {xo yo : Operand} {d : DVal} (a : Option Addr) (n cap : Nat) (hb : tSl P t = true) (hd : (match op with | .eql => some (DVal.bool a.isNone) | .neq => some (.bool (!a.isNone)) | _ => none) = some d) :
    ∃ r, (do eqGuard op t xo yo (.slice a n cap) (.slice none 0 0); binOp op t (.slice a n cap) (.slice none 0 0) : Sem Value).run P w = .ok r w ∧ rd cur M h d r := by
  obtain ⟨e, ht⟩ : ∃ e, P.underlying t = some (.slice e) := by
    unfold tSl at hb
    split at hb
    · exact ⟨_, by assumption⟩
    · simp at hb
  have he : (Op.equal t (.slice a n cap) (.slice none 0 0)).run P w = .ok a.isNone w := by
    have gen : ∀ d : Nat, (Op.equalIn (d + 1) t (.slice a n cap) (.slice none 0 0)).run P w = .ok a.isNone w := by
      intro d
      cases a <;> simp [Op.equalIn, run_underlying ht]
    exact gen 9999
  cases op <;> simp only [Option.some.injEq, reduceCtorEq] at hd <;> subst hd
  · have : binOp .eql t (.slice a n cap) (.slice none 0 0) = (do pure (.bool (← Op.equal t (.slice a n cap) (.slice none 0 0)))) := rfl
    rw [this]
    have g : (eqGuard .eql t xo yo (.slice a n cap) (.slice none 0 0)).run P w = .ok () w := rfl
    simp only [Sem.run_bind, g, Result.andThen_ok, he, Sem.run_pure]
    exact ⟨_, rfl, by simp [rd]⟩
  · have : binOp .neq t (.slice a n cap) (.slice none 0 0) = (do pure (.bool (!(← Op.equal t (.slice a n cap) (.slice none 0 0))))) := rfl
    rw [this]
    have g : (eqGuard .neq t xo yo (.slice a n cap) (.slice none 0 0)).run P w = .ok () w := rfl
    simp only [Sem.run_bind, g, Result.andThen_ok, he, Sem.run_pure]
    exact ⟨_, rfl, by simp [rd]⟩

theorem data_beq (a b : ByteArray) : (a.data == b.data) = (a == b) := by
  obtain ⟨x⟩ := a
  obtain ⟨y⟩ := b
  rfl

theorem fdiv_inR (k : IntKind) (a : Int) (n : Nat) (ha : inR k a) : inR k (a.fdiv (2 ^ n)) := by
  have hp : (1 : Int) ≤ 2 ^ n := by have : (0:Int) < 2 ^ n := Int.pow_pos (by decide); omega
  rw [Int.fdiv_eq_ediv_of_nonneg _ (by omega)]
  have h1 : 0 ≤ a → 0 ≤ a / 2 ^ n ∧ a / 2 ^ n ≤ a := fun h => ⟨Int.ediv_nonneg h (by omega), Int.ediv_le_self _ h⟩
  have h2 : a < 0 → a / 2 ^ n < 0 ∧ a ≤ a / 2 ^ n := fun h => ⟨Int.ediv_neg_of_neg_of_pos h (by omega), (Int.le_ediv_iff_mul_le (by omega)).2 (by
    have := Int.mul_le_mul_of_nonpos_left (a := a) (by omega) hp
    omega)⟩
  cases k <;> simp only [inR] at ha ⊢ <;> (rcases Int.lt_or_le a 0 with h | h <;> first | (have := h1 h; omega) | (have := h2 h; omega) | omega)
theorem tmod_inR (k : IntKind) (a b : Int) (ha : inR k a) : inR k (a.tmod b) := by
  have h1 : 0 ≤ a → 0 ≤ a.tmod b ∧ a.tmod b ≤ a := fun h => ⟨Int.tmod_nonneg b h, by
    by_cases hb : b = 0
    · subst hb; simp
    · have := Int.natAbs_tmod a b
      have h5 : (a.natAbs % b.natAbs) ≤ a.natAbs := Nat.mod_le _ _
      have h6 := Int.tmod_nonneg b h
      omega⟩
  have h2 : a < 0 → a.tmod b ≤ 0 ∧ a ≤ a.tmod b := fun h => by
    have e : a.tmod b = -((-a).tmod b) := by rw [Int.neg_tmod]; omega
    have h3 := Int.tmod_nonneg b (show 0 ≤ -a by omega)
    have h4 := Int.natAbs_tmod (-a) b
    have h5 : ((-a).natAbs % b.natAbs) ≤ (-a).natAbs := Nat.mod_le _ _
    omega
  cases k <;> simp only [inR] at ha ⊢ <;> (rcases Int.lt_or_le a 0 with h | h <;> first | (have := h1 h; omega) | (have := h2 h; omega) | omega)

theorem dbin_int {op : BinOp} {t : TypeId} {xo yo : Operand} {k k' : IntKind} {a b : Int} {d : DVal} (ha : inR k a) (hd : dbin P op t (.int k a) (.int k' b) = some d) :
    ∃ r, (do eqGuard op t xo yo (.int k a) (.int k' b); binOp op t (.int k a) (.int k' b) : Sem Value).run P w = .ok r w ∧ rd cur M h d r := by
  cases op <;> simp only [dbin, ne_eq, ite_not] at hd <;> split at hd <;> (try split at hd) <;> (try (simp at hd; done)) <;> simp only [Option.some.injEq, reduceCtorEq] at hd <;> subst hd <;> rename_i hk
  case shl => simp [eqGuard, binOp, Op.shift, hk, rd, wrap_inR, iShl]
  case shr => simp [eqGuard, binOp, Op.shift, hk, rd, fdiv_inR _ _ _ ha, iShr]
  case quo => rename_i hk1; subst hk1; simp [eqGuard, binOp, Op.intDiv, hk, rd, wrap_inR]
  case rem => rename_i hk1; subst hk1; simp [eqGuard, binOp, Op.intDiv, hk, rd, tmod_inR _ _ _ ha]
  all_goals (subst hk; simp [eqGuard, binOp, Op.intArith, Op.intCmp, Op.intBits, rd, wrap_inR, iAnd, iOr, iXor, iAndNot])

theorem dbin_str {op : BinOp} {t : TypeId} {xo yo : Operand} {a b : ByteArray} {d : DVal} (hd : dbin P op t (.str a) (.str b) = some d) :
    ∃ r, (do eqGuard op t xo yo (.string a) (.string b); binOp op t (.string a) (.string b) : Sem Value).run P w = .ok r w ∧ rd cur M h d r := by
  simp only [dbin] at hd
  cases op <;> simp at hd
  case add =>
    obtain ⟨h1, rfl⟩ := hd
    have h2 : (a.size : Int) + (b.size : Int) ≤ 9223372036854775807 := by unfold maxLen at h1; omega
    simp [eqGuard, binOp, Op.stringOp, rd, h2, h1]
  all_goals (subst hd; simp [eqGuard, binOp, Op.stringOp, rd, ByteArray.toList_eq, data_beq, -beq_iff_eq])

theorem dbin_ok {op : BinOp} {t : TypeId} {xo yo : Operand} {x y d : DVal} {u v : Value} (hd : dbin P op t x y = some d) (rx : rd cur M h x u) (ry : rd cur M h y v) :
    ∃ r, (do eqGuard op t xo yo u v; binOp op t u v : Sem Value).run P w = .ok r w ∧ rd cur M h d r := by
  cases x <;> cases y <;> (try (simp [dbin] at hd; done))
  case bool.bool a b =>
    simp only [rd] at rx ry; subst rx; subst ry
    simp only [dbin] at hd
    split at hd
    · rename_i hb
      have ht : P.underlying t = some .bool := by
        unfold tBool at hb
        split at hb
        · assumption
        · simp at hb
      cases op <;> simp at hd <;> subst hd <;>
        simp [eqGuard, binOp, Op.equal, Op.maxDepth, run_equalIn_bool' w _ t _ _ ht, rd]
    · simp at hd
  case int.int k a k' b =>
    simp only [rd] at rx ry
    obtain ⟨rfl, rx⟩ := rx; obtain ⟨rfl, ry⟩ := ry
    exact dbin_int rx hd
  case str.str a b =>
    simp only [rd] at rx ry
    obtain ⟨rfl, rx⟩ := rx; obtain ⟨rfl, ry⟩ := ry
    exact dbin_str hd
  case nilp.nilp =>
    simp only [rd] at rx ry; subst rx; subst ry
    simp only [dbin] at hd
    split at hd
    · rename_i hb
      have he := run_equal_ptr_nil (P := P) (w := w) hb none
      cases op <;> simp only [Option.some.injEq, reduceCtorEq] at hd <;> subst hd <;>
        simp only [Sem.run_bind, eqGuard_ptr, Result.andThen_ok, binOp_eql_ptr, binOp_neq_ptr, he, Sem.run_pure] <;> exact ⟨_, rfl, by simp [rd]⟩
    · simp at hd
  case nilsl.nilsl =>
    simp only [rd] at rx ry; subst rx; subst ry
    simp only [dbin] at hd
    split at hd
    · rename_i hb; exact dbin_sl none 0 0 hb (by simpa using hd)
    · simp at hd
  case esl.nilsl =>
    simp only [rd] at rx ry; subst ry
    obtain ⟨ad, cap, rfl, _⟩ := rx
    simp only [dbin] at hd
    split at hd
    · rename_i hb; exact dbin_sl (some ad) 0 cap hb (by simpa using hd)
    · simp at hd
  case sl.nilsl k bs es =>
    cases es with
    | nil => simp [dbin] at hd
    | cons e0 es =>
      simp only [rd] at rx ry; subst ry
      obtain ⟨a, cap, rfl, _, _, _, h5⟩ := rx
      simp only [dbin] at hd
      split at hd
      · rename_i hb
        rcases h5 with h5 | ⟨b, off, arr, ty, fz, rfl, _⟩
        · simp at h5
        · exact dbin_sl _ _ cap hb (by simpa using hd)
      · simp at hd
  case ref.nilp =>
    simp only [rd] at rx ry; subst ry
    obtain ⟨b, off, arr, ty, fz, rfl, _, _, _⟩ := rx
    simp only [dbin] at hd
    split at hd
    · rename_i hb
      have he := run_equal_ptr_nil (P := P) (w := w) hb (some ⟨b, off, none⟩)
      cases op <;> simp only [Option.some.injEq, reduceCtorEq] at hd <;> subst hd <;>
        simp only [Sem.run_bind, eqGuard_ptr, Result.andThen_ok, binOp_eql_ptr, binOp_neq_ptr, he, Sem.run_pure] <;> exact ⟨_, rfl, by simp [rd]⟩
    · simp at hd
  case agg.agg xs ys =>
    simp only [rd] at rx ry
    obtain ⟨us, rfl, rx⟩ := rx
    obtain ⟨vs, rfl, ry⟩ := ry
    simp only [dbin] at hd
    split at hd
    · simp at hd
    rename_i hgd
    split at hd
    · simp at hd
    rename_i hag
    simp only [ne_eq, Decidable.not_not] at hag
    split at hd
    · rename_i ks hks
      split at hd
      · rename_i hxy
        simp only [Bool.and_eq_true] at hxy
        have e := run_equal_flat (P := P) 10000 t ks true xs ys us.toList vs.toList w hks hag hxy.1 hxy.2 rx ry
        simp only [valOf, if_true, Array.toArray_toList] at e
        have g : (eqGuard op t xo yo (.agg us) (.agg vs)).run P w = .ok () w := run_eqGuard_agg w op t xo yo us vs (by simpa using hgd)
        cases op <;> simp only [Option.some.injEq, reduceCtorEq] at hd <;> subst hd <;>
          simp only [Sem.run_bind, g, Result.andThen_ok, run_eql_struct, run_neq_struct, e] <;> exact ⟨_, rfl, by simp [rd]⟩
      · simp at hd
    · simp at hd

end
end Go.Dm
end

section
/- The data machine, second make, part D1: a map's keys: found or not. -/

set_option linter.unusedSimpArgs false
set_option linter.unusedVariables false
namespace Go.Dm

section
variable (P : Program)
def tMap (t : TypeId) : Option (TypeId × TypeId) := match P.underlying t with | some (.map k e) => some (k, e) | _ => none
def isAggD : DVal → Bool
  | .agg _ => true
  | _ => false
def cellsK : DVal → List DVal
  | .agg cs => cs
  | d => [d]
/-- a key of a type whose '==' looks at flat cells -/
def keyOK (kt : TypeId) (d : DVal) : Bool := match flat P 10000 kt, tAgg P kt with
  | some cks, some b => ckAll cks (cellsK d) && (b == isAggD d)
  | _, _ => false
def tZeroD (t : TypeId) : Option DVal := match P.info? t with
  | some i => i.zero.map ofV
  | none => none
end
/-- the place of a key -/
def lookI : List DVal → DVal → Option Nat
  | [], _ => none
  | k :: ks, x => if eqCs (cellsK x) (cellsK k) then some 0 else (lookI ks x).map (· + 1)

section
variable {P : Program} {cur : Cur} {M : List Nat} {h : Array Obj}

theorem cellsK_val {d : DVal} {v : Value} {b : Bool} (hb : b = isAggD d) (hr : rd cur M h d v) : ∃ us, rdV cur M h (cellsK d) us ∧ v = valOf b us := by
  cases d <;> simp only [isAggD] at hb <;> subst hb <;> simp only [cellsK]
  case agg cs =>
    simp only [rd] at hr
    obtain ⟨us, rfl, h2⟩ := hr
    exact ⟨us.toList, h2, by simp [valOf]⟩
  all_goals exact ⟨[v], by simp only [rdV]; exact ⟨v, [], rfl, hr, rfl⟩, by simp [valOf]⟩

theorem run_equal_key {kt : TypeId} {x k : DVal} {u v : Value} {w : World} (hx : keyOK P kt x = true) (hk : keyOK P kt k = true) (rx : rd cur M h x u) (rk : rd cur M h k v) :
    (Op.equal kt u v).run P w = .ok (eqCs (cellsK x) (cellsK k)) w := by
  unfold keyOK at hx hk
  split at hx
  · rename_i cks b hf hb
    rw [hf, hb] at hk
    simp only [Bool.and_eq_true, beq_iff_eq] at hx hk
    obtain ⟨us, h1, rfl⟩ := cellsK_val hx.2 rx
    obtain ⟨vs, h2, rfl⟩ := cellsK_val hk.2 rk
    exact run_equal_flat (P := P) 10000 kt cks b _ _ us vs w hf hb hx.1 hk.1 h1 h2
  · simp at hx

/-- the same as 'flat': its run never asks what hashes -/
theorem run_checkKey : ∀ (d : Nat) (t : TypeId) (cks : List CK) (b : Bool) (xs : List DVal) (us : List Value) (w : World) (e : Bool), flat P d t = some cks → tAgg P t = some b → ckAll cks xs = true → rdV cur M h xs us →
    (Instr.checkKey e d t (valOf b us)).run P w = .ok () w
  | 0, t, cks, b, xs, us, w, e, hf, _, _, _ => by simp [flat] at hf
  | d + 1, t, cks, b, xs, us, w, e, hf, hb, hx, rx => by
    obtain ⟨b', hb', h1, h2, h3⟩ := flat_agg hf
    rw [hb] at hb'
    simp only [Option.some.injEq] at hb'
    subst hb'
    cases b with
    | false =>
      have hns := h3 rfl
      rw [flat] at hf
      split at hf
      · rename_i hu; simp [Instr.checkKey, run_underlying hu]
      · rename_i hu; simp [Instr.checkKey, run_underlying hu]
      · rename_i hu; simp [Instr.checkKey, run_underlying hu]
      · rename_i fs hu; simp [tStruct, hu] at hns
      · simp at hf
    | true =>
      have hst := h2 rfl
      obtain ⟨fs, hu⟩ : ∃ fs, P.underlying t = some (.struct fs) := by
        unfold tStruct at hst
        split at hst
        · exact ⟨_, by assumption⟩
        · simp at hst
      simp only [flat, hu] at hf
      split at hf
      · simp at hf
      have hfin : ∀ (fl : List Field) (o : Nat) (ks : List CK) (xs : List DVal) (us0 us : List Value), flatF P (flat P d) o fl = some ks → ckAll ks xs = true → rdV cur M h xs us → us0.length = o →
          (forIn fl PUnit.unit (fun (f : Field) (_ : PUnit) => (if f.name ≠ "_" then (do let v ← part f.type (us0 ++ us).toArray f.offset; Instr.checkKey e d f.type v; pure (ForInStep.yield PUnit.unit)) else pure (ForInStep.yield PUnit.unit) : Sem (ForInStep PUnit)))).run P w = .ok PUnit.unit w := by
        intro fl
        induction fl with
        | nil => intros; simp
        | cons f fl ih =>
          intro o ks xs us0 us hf hx rx l1
          simp only [flatF] at hf
          split at hf
          · simp at hf
          rename_i hnm
          split at hf
          · simp at hf
          rename_i hof
          simp only [ne_eq, Decidable.not_not] at hof
          split at hf
          rotate_left
          · simp at hf
          rename_i k1 hk1
          split at hf
          rotate_left
          · simp at hf
          rename_i hsz
          simp only [Option.map_eq_some_iff] at hf
          obtain ⟨k2, hk2, rfl⟩ := hf
          obtain ⟨b, hb, hb1, _, _⟩ := flat_agg hk1
          have sx := ckAll_split k1 k2 xs hx
          have lx := ckAll_length _ _ hx
          have rlx := rdV_length _ _ rx
          simp only [List.length_append] at lx
          have p1 := run_part (P := P) (w := w) (us := (us0 ++ us).toArray) (o := o) hb hsz hb1 (by simp; omega)
          have d1 : ((us0 ++ us).toArray.toList.drop o).take k1.length = us.take k1.length := by subst l1; simp
          rw [d1] at p1
          have e1 := run_checkKey d f.type k1 b (xs.take k1.length) (us.take k1.length) w e hk1 hb sx.1 (rdV_take _ _ _ rx)
          have ih' := ih (o + k1.length) k2 (xs.drop k1.length) (us0 ++ us.take k1.length) (us.drop k1.length) hk2 sx.2 (rdV_drop _ _ _ rx) (by simp; omega)
          rw [List.append_assoc, List.take_append_drop] at ih'
          simp only [List.forIn_cons, ne_eq, hnm, not_false_eq_true, if_true, Sem.run_bind, hof, p1, Result.andThen_ok, e1, Sem.run_pure]
          exact ih'
      have := hfin fs.toList 0 cks xs [] us hf hx rx rfl
      simp only [List.nil_append] at this
      simp only [valOf, if_true, Instr.checkKey, Sem.run_bind, run_underlying hu, Result.andThen_ok]
      rw [← Array.forIn_toList]
      rw [this]
      rfl

theorem run_checkKey' {kt : TypeId} {x : DVal} {u : Value} {w : World} {e : Bool} (hx : keyOK P kt x = true) (rx : rd cur M h x u) : (Instr.checkKey e 10000 kt u).run P w = .ok () w := by
  unfold keyOK at hx
  split at hx
  · rename_i cks b hf hb
    simp only [Bool.and_eq_true, beq_iff_eq] at hx
    obtain ⟨us, h1, rfl⟩ := cellsK_val hx.2 rx
    exact run_checkKey 10000 kt cks b _ us w e hf hb hx.1 h1
  · simp at hx

/-- a found key's place -/
theorem run_findAsking {kt : TypeId} {x : DVal} {u : Value} {w : World} (hx : keyOK P kt x = true) (rx : rd cur M h x u) : ∀ (es : List MapEntry) (ks : List DVal) (i : Nat), ks.all (keyOK P kt) = true → rdV cur M h ks (es.map (·.key)) →
    (Instr.findAsking kt u es i).run P w = .ok ((lookI ks x).map fun j => (i + j, (es[j]?.map (·.val)).getD Go.undef)) w
  | [], ks, i, _, hr => by
    have := rdV_length _ _ hr
    have : ks = [] := List.eq_nil_of_length_eq_zero (by simpa using this.symm)
    subst this
    simp [Instr.findAsking, lookI]
  | e :: es, ks, i, hk, hr => by
    cases ks with
    | nil => have := rdV_length _ _ hr; simp at this
    | cons k ks =>
      simp only [List.map_cons, rdV] at hr
      obtain ⟨v, r, heq, h1, h2⟩ := hr
      simp only [List.cons.injEq] at heq
      obtain ⟨rfl, rfl⟩ := heq
      simp only [List.all_cons, Bool.and_eq_true] at hk
      have he := run_equal_key (w := w) hx hk.1 rx h1
      simp only [Instr.findAsking, Sem.run_bind, he, Result.andThen_ok, lookI]
      cases hq : eqCs (cellsK x) (cellsK k) with
      | true => simp
      | false =>
        simp only [Bool.false_eq_true, if_false]
        rw [run_findAsking hx rx es ks (i + 1) hk.2 h2]
        cases lookI ks x with
        | none => simp
        | some j => simp; omega

theorem run_findKey {kt : TypeId} {x : DVal} {u : Value} {w : World} (hx : keyOK P kt x = true) (rx : rd cur M h x u) (es : List MapEntry) (ks : List DVal) (hk : ks.all (keyOK P kt) = true) (hr : rdV cur M h ks (es.map (·.key))) :
    (Instr.findKey kt u es).run P w = .ok ((lookI ks x).map fun j => (j, (es[j]?.map (·.val)).getD Go.undef)) w := by
  have hask := run_findAsking (w := w) hx rx es ks 0 hk hr
  simp only [Nat.zero_add] at hask
  obtain ⟨d, hd⟩ : ∃ d, P.underlying kt = some d := by
    unfold keyOK at hx
    split at hx
    · rename_i cks b hf hb
      unfold tAgg at hb
      split at hb <;> first | exact ⟨_, by assumption⟩ | simp at hb
    · simp at hx
  simp only [Instr.findKey, Sem.run_bind, run_underlying hd, Result.andThen_ok]
  -- where the types decide at once, they decide alike
  have now : ∀ (es : List MapEntry) (ks : List DVal) (i : Nat) (r : Option (Nat × Value)), ks.all (keyOK P kt) = true → rdV cur M h ks (es.map (·.key)) → Instr.findNow d u es i = some r → r = (lookI ks x).map fun j => (i + j, (es[j]?.map (·.val)).getD Go.undef) := by
    intro es
    induction es with
    | nil =>
      intro ks i r _ hr hn
      have := rdV_length _ _ hr
      have : ks = [] := List.eq_nil_of_length_eq_zero (by simpa using this.symm)
      subst this
      simp only [Instr.findNow, Option.some.injEq] at hn
      subst hn
      simp [lookI]
    | cons e es ih =>
      intro ks i r hk hr hn
      cases ks with
      | nil => have := rdV_length _ _ hr; simp at this
      | cons k ks =>
        simp only [List.map_cons, rdV] at hr
        obtain ⟨v, r', heq, h1, h2⟩ := hr
        simp only [List.cons.injEq] at heq
        obtain ⟨rfl, rfl⟩ := heq
        simp only [List.all_cons, Bool.and_eq_true] at hk
        have he := run_equal_key (w := ⟨#[], fun _ _ => 0, 0, default, #[]⟩) hx hk.1 rx h1
        have hsn : ∀ b, Instr.sameNow d u e.key = some b → b = eqCs (cellsK x) (cellsK k) := by
          intro b hb
          have e0 : Op.equal kt u e.key = Op.equalIn (9999 + 1) kt u e.key := rfl
          rw [e0] at he
          unfold Instr.sameNow at hb
          split at hb
          · rename_i k1 a k2 b2 heq
            split at hb
            · rename_i hkk
              subst hkk
              simp only [Option.some.injEq] at hb
              subst hb
              rw [heq] at he
              have gen : ∀ n w k, (Op.equalIn (n + 1) kt (.int k a) (.int k b2)).run P w = .ok (a == b2) w := by intro n w k; simp [Op.equalIn, run_underlying hd]
              rw [gen] at he
              simp only [Result.ok.injEq, and_true] at he
              exact he
            · simp at hb
          · rename_i a b2 heq
            simp only [Option.some.injEq] at hb
            subst hb
            rw [heq] at he
            have gen : ∀ n w, (Op.equalIn (n + 1) kt (.string a) (.string b2)).run P w = .ok (a == b2) w := by intro n w; simp [Op.equalIn, run_underlying hd]
            rw [gen] at he
            simp only [Result.ok.injEq, and_true] at he
            exact he
          · rename_i a b2 heq
            simp only [Option.some.injEq] at hb
            subst hb
            rw [heq] at he
            have gen : ∀ n w, (Op.equalIn (n + 1) kt (.bool a) (.bool b2)).run P w = .ok (a == b2) w := by intro n w; simp [Op.equalIn, run_underlying hd]
            rw [gen] at he
            simp only [Result.ok.injEq, and_true] at he
            exact he
          · simp at hb
        simp only [Instr.findNow] at hn
        split at hn
        · rename_i hs
          simp only [Option.some.injEq] at hn
          subst hn
          simp [lookI, ← hsn true hs]
        · rename_i hs
          have := ih ks (i + 1) r hk.2 h2 hn
          rw [this]
          simp only [lookI, ← hsn false hs, Bool.false_eq_true, if_false]
          cases lookI ks x with
          | none => simp
          | some j => simp; omega
        · simp at hn
  cases hn : Instr.findNow d u es 0 with
  | some r =>
    have := now es ks 0 r hk hr hn
    simp only [Nat.zero_add] at this
    simp [this]
  | none => exact hask

theorem lookI_lt : ∀ {ks : List DVal} {x : DVal} {j : Nat}, lookI ks x = some j → j < ks.length
  | [], x, j, h => by simp [lookI] at h
  | k :: ks, x, j, h => by
    simp only [lookI] at h
    split at h
    · simp only [Option.some.injEq] at h; subst h; simp
    · rw [Option.map_eq_some_iff] at h
      obtain ⟨i, h1, rfl⟩ := h
      have := lookI_lt h1
      simp; omega

theorem tZeroD_ok {t : TypeId} {z : DVal} (hz : tZeroD P t = some z) {w : World} : ∃ v, (zeroValue t).run P w = .ok v w ∧ rd cur M h z v := by
  unfold tZeroD at hz
  split at hz
  · rename_i i hi
    rw [Option.map_eq_some_iff] at hz
    obtain ⟨v, hv, rfl⟩ := hz
    exact ⟨v, by simp [zeroValue, typeInfo, hi, hv], rd_ofV v⟩
  · simp at hz
end
end Go.Dm
end

