/- Parts of a proof, laid together: EnA, EnB. -/
import Derived.WalkKit
import Derived.Laws.Rows
set_option linter.unusedSimpArgs false
set_option linter.unusedVariables false
set_option linter.unusedSectionVars false
section
namespace Go.Dm
inductive DVal where
 | any
 | undef
 | sel (c : Bool) (d : DVal)
 | bool (b : Bool)
 | int (k : IntKind) (n : Int)
 | str (s : ByteArray)
 | nilp
 | ref (cs : List DVal)
 | bx (id r off : Nat)
 | rx (id r k i j : Nat)
 | nilsl
 | esl
 | sl (k bs : Nat) (es : List (List DVal))
 | osl (id r : Nat)
 | vw (id r k bs i n : Nat)
 | nilmp
 | mp (ks vs : List DVal)
 | omp (id r : Nat)
 | pk (id r : Nat)
 | nilfn
 | fn (f : Fn) (first caps : List DVal)
 | nilifc
 | ifc (t : TypeId) (d : DVal)
 | agg (cs : List DVal)
 | tup (vs : List DVal)
 deriving Inhabited
structure Loc where
 blks : List Nat
 hdr : Value
def bornOK (es : Array MapEntry) (clk : Nat) : Prop := (es.toList.map (·.born)).Nodup ∧ ∀ e ∈ es.toList, e.born < clk
def bornC (es : Array MapEntry) (clk : Nat) : Prop := clk = es.size ∧ ∀ (i : Nat) (e : MapEntry), es[i]? = some e → e.born = i
theorem bornC.ok {es : Array MapEntry} {clk : Nat} (h : bornC es clk) : bornOK es clk := by
 obtain ⟨rfl, h⟩ := h
 refine ⟨?_, fun e he => ?_⟩
 ·unfold List.Nodup
  rw [List.pairwise_iff_getElem]
  intro i j hi hj hij
  simp only [List.length_map, Array.length_toList] at hi hj
  simp only [List.getElem_map, Array.getElem_toList]
  rw [h i _ (Array.getElem?_eq_getElem hi), h j _ (Array.getElem?_eq_getElem hj)]
  omega
 ·obtain ⟨i, hi⟩ := List.getElem?_of_mem he
  have hi' : es[i]? = some e := by simpa using hi
  rw [h i e hi']
  exact (Array.getElem?_eq_some_iff.1 hi').1
def inR : IntKind → Int → Prop
 | .i64, n => -9223372036854775808 ≤ n ∧ n ≤ 9223372036854775807
 | .u64, n => 0 ≤ n ∧ n ≤ 18446744073709551615
 | .u8, n => 0 ≤ n ∧ n ≤ 255
 | .i8, n => -128 ≤ n ∧ n ≤ 127
 | .i16, n => -32768 ≤ n ∧ n ≤ 32767
 | .u16, n => 0 ≤ n ∧ n ≤ 65535
 | .i32, n => -2147483648 ≤ n ∧ n ≤ 2147483647
 | .u32, n => 0 ≤ n ∧ n ≤ 4294967295
abbrev Cur := Nat → Nat → Option Loc
section
variable (cur : Cur) (M : List Nat) (h : Array Obj)
mutual
def rd : DVal → Value → Prop
 | .any, _ => True
 | .undef, v => v = Go.undef
 | .sel c d, v => (c = true → rd d v) ∧ (c = false → v = Go.undef)
 | .bool b, v => v = .bool b
 | .int k n, v => v = .int k n ∧ inR k n
 | .str s, v => v = .string s ∧ s.size ≤ maxLen
 | .nilp, v => v = .pointer none
 | .ref cs, v => ∃ b off arr ty fz, v = .pointer (some ⟨b, off, none⟩) ∧ b ∉ M ∧ h[b]? = some (.cells arr ty fz) ∧ rdC cs arr off
 | .bx id r off, v => ∀ l, cur id r = some l → ∃ b, l.blks = [b] ∧ v = .pointer (some ⟨b, off, none⟩)
 | .rx id r k i j, v => ∀ l, cur id r = some l → ∃ b, l.blks = [b] ∧ v = .pointer (some ⟨b, i * k + j, none⟩)
 | .nilsl, v => v = .slice none 0 0
 | .esl, v => ∃ ad cap, v = .slice (some ad) 0 cap ∧ cap ≤ maxLen
 | .sl k bs es, v => ∃ a cap, v = .slice a es.length cap ∧ es.length ≤ cap ∧ cap ≤ maxLen ∧ es.length * bs ≤ 150000000000000 ∧
  ((es = [] ∧ (a = none → cap = 0)) ∨ ∃ b off arr ty fz, a = some ⟨b, off, none⟩ ∧ b ∉ M ∧ h[b]? = some (.cells arr ty fz) ∧ rdR k es arr off)
 | .osl id r, v => ∀ l, cur id r = some l → v = l.hdr
 | .vw id r k bs i n, v => ∀ l, cur id r = some l → ∃ a cap, v = .slice a n cap ∧ n ≤ cap ∧ cap ≤ maxLen ∧ (a = none → cap = 0) ∧ (0 < n → ∃ b, l.blks = [b] ∧ a = some ⟨b, i * k, none⟩) ∧ (i = 0 → bs = 0 ∨ ∃ n0, l.hdr = .slice a n0 cap)
 | .nilmp, v => v = .map none
 | .mp ks vs, v => ∃ b es clk, v = .map (some b) ∧ b ∉ M ∧ h[b]? = some (.map es clk) ∧ bornOK es clk ∧ rdV ks (es.toList.map (·.key)) ∧ rdV vs (es.toList.map (·.val))
 | .omp id r, v => ∀ l, cur id r = some l → ∃ b, l.blks = [b] ∧ v = .map (some b)
 | .pk id r, v => ∀ l, cur id r = some l → v = l.hdr
 | .nilfn, v => v = .nilFunc
 | .fn f us cs, v => ∃ us' cs' : Array Value, v = .func f us' cs' ∧ rdV us us'.toList ∧ rdV cs cs'.toList
 | .nilifc, v => v = .nilIface
 | .ifc t d, v => ∃ u, v = .iface t u ∧ rd d u
 | .agg cs, v => ∃ us : Array Value, v = .agg us ∧ rdV cs us.toList
 | .tup cs, v => ∃ us : Array Value, v = .tuple us ∧ rdV cs us.toList
def rdC : List DVal → Array Value → Nat → Prop
 | [], _, _ => True
 | d :: ds, arr, o => (∃ v, arr[o]? = some v ∧ v.oneCell' = true ∧ rd d v) ∧ rdC ds arr (o + 1)
def rdR (k : Nat) : List (List DVal) → Array Value → Nat → Prop
 | [], _, _ => True
 | cs :: es, arr, o => cs.length = k ∧ rdC cs arr o ∧ rdR k es arr (o + k)
def rdV : List DVal → List Value → Prop
 | [], vs => vs = []
 | d :: ds, vs => ∃ v r, vs = v :: r ∧ rd d v ∧ rdV ds r
end
end
mutual
def mx : DVal → Nat
 | .ref cs => mxL cs
 | .bx _ r _ => r + 1
 | .rx _ r _ _ _ => r + 1
 | .osl _ r => r + 1
 | .vw _ r _ _ _ _ => r + 1
 | .mp ks vs => max (mxL ks) (mxL vs)
 | .omp _ r => r + 1
 | .pk _ r => r + 1
 | .sl _ _ es => mxR es
 | .fn _ us cs => max (mxL us) (mxL cs)
 | .ifc _ d => mx d
 | .sel c d => if c then mx d else 0
 | .agg cs => mxL cs
 | .tup cs => mxL cs
 | _ => 0
def mxL : List DVal → Nat
 | [] => 0
 | d :: ds => max (mx d) (mxL ds)
def mxR : List (List DVal) → Nat
 | [] => 0
 | cs :: es => max (mxL cs) (mxR es)
end
section
variable {cur cur' : Cur} {M M' : List Nat} {h h' : Array Obj} {n : Nat}
def isD : Obj → Bool
 | .cells _ _ _ => true
 | .map _ _ => true
 | _ => false
structure Weak (cur cur' : Cur) (M M' : List Nat) (h h' : Array Obj) (n : Nat) : Prop where
 c : ∀ id r l, r < n → cur' id r = some l → cur id r = some l
 b : ∀ b o, b ∉ M → isD o = true → h[b]? = some o → h'[b]? = some o
 m : ∀ b o, b ∉ M → isD o = true → h[b]? = some o → b ∉ M'
mutual
theorem rd_weak (W : Weak cur cur' M M' h h' n) : ∀ (d : DVal) (v : Value), mx d ≤ n → rd cur M h d v → rd cur' M' h' d v
 | .any, _, _, _ => by simp [rd]
 | .undef, _, _, hr => by simpa [rd] using hr
 | .sel c d, v, hm, hr => by
  simp only [mx] at hm
  simp only [rd] at hr ⊢
  exact ⟨fun h => rd_weak W d v (by rw [if_pos h] at hm; exact hm) (hr.1 h), hr.2⟩
 | .bool _, _, _, hr => by simpa [rd] using hr
 | .int _ _, _, _, hr => by simpa [rd] using hr
 | .str _, _, _, hr => by simpa [rd] using hr
 | .nilp, _, _, hr => by simpa [rd] using hr
 | .ref cs, v, hm, hr => by
  simp only [mx] at hm
  simp only [rd] at hr ⊢
  obtain ⟨b, off, arr, ty, fz, h1, h2, h3, h4⟩ := hr
  exact ⟨b, off, arr, ty, fz, h1, W.m b _ h2 rfl h3, W.b b _ h2 rfl h3, rdC_weak W cs arr off hm h4⟩
 | .bx id r off, v, hm, hr => by
  simp only [mx] at hm
  simp only [rd] at hr ⊢
  exact fun l hl => hr l (W.c id r l (by omega) hl)
 | .rx id r k i j, v, hm, hr => by
  simp only [mx] at hm
  simp only [rd] at hr ⊢
  exact fun l hl => hr l (W.c id r l (by omega) hl)
 | .nilsl, _, _, hr => by simpa [rd] using hr
 | .esl, _, _, hr => by simpa [rd] using hr
 | .sl k bs es, v, hm, hr => by
  simp only [mx] at hm
  simp only [rd] at hr ⊢
  obtain ⟨a, cap, h1, h2, h2', h2'', h3⟩ := hr
  refine ⟨a, cap, h1, h2, h2', h2'', h3.imp id ?_⟩
  rintro ⟨b, off, arr, ty, fz, g1, g2, g3, g4⟩
  exact ⟨b, off, arr, ty, fz, g1, W.m b _ g2 rfl g3, W.b b _ g2 rfl g3, rdR_weak W k es arr off hm g4⟩
 | .osl id r, v, hm, hr => by
  simp only [mx] at hm
  simp only [rd] at hr ⊢
  exact fun l hl => hr l (W.c id r l (by omega) hl)
 | .vw id r k bs i n, v, hm, hr => by
  simp only [mx] at hm
  simp only [rd] at hr ⊢
  exact fun l hl => hr l (W.c id r l (by omega) hl)
 | .nilmp, _, _, hr => by simpa [rd] using hr
 | .mp ks vs, v, hm, hr => by
  simp only [mx] at hm
  simp only [rd] at hr ⊢
  obtain ⟨b, es, clk, h1, h2, h3, h4, h5, h6⟩ := hr
  exact ⟨b, es, clk, h1, W.m b _ h2 rfl h3, W.b b _ h2 rfl h3, h4, rdV_weak W ks _ (by omega) h5, rdV_weak W vs _ (by omega) h6⟩
 | .omp id r, v, hm, hr => by
  simp only [mx] at hm
  simp only [rd] at hr ⊢
  exact fun l hl => hr l (W.c id r l (by omega) hl)
 | .pk id r, v, hm, hr => by
  simp only [mx] at hm
  simp only [rd] at hr ⊢
  exact fun l hl => hr l (W.c id r l (by omega) hl)
 | .nilfn, _, _, hr => by simpa [rd] using hr
 | .fn f us cs, v, hm, hr => by
  simp only [mx] at hm
  simp only [rd] at hr ⊢
  obtain ⟨us', cs', h1, h2, h3⟩ := hr
  exact ⟨us', cs', h1, rdV_weak W us _ (by omega) h2, rdV_weak W cs _ (by omega) h3⟩
 | .nilifc, _, _, hr => by simpa [rd] using hr
 | .ifc t d, v, hm, hr => by
  simp only [mx] at hm
  simp only [rd] at hr ⊢
  obtain ⟨u, h1, h2⟩ := hr
  exact ⟨u, h1, rd_weak W d u hm h2⟩
 | .agg cs, v, hm, hr => by
  simp only [mx] at hm
  simp only [rd] at hr ⊢
  obtain ⟨us, h1, h2⟩ := hr
  exact ⟨us, h1, rdV_weak W cs _ hm h2⟩
 | .tup cs, v, hm, hr => by
  simp only [mx] at hm
  simp only [rd] at hr ⊢
  obtain ⟨us, h1, h2⟩ := hr
  exact ⟨us, h1, rdV_weak W cs _ hm h2⟩
theorem rdC_weak (W : Weak cur cur' M M' h h' n) : ∀ (ds : List DVal) (arr : Array Value) (o : Nat), mxL ds ≤ n → rdC cur M h ds arr o → rdC cur' M' h' ds arr o
 | [], _, _, _, _ => by simp [rdC]
 | d :: ds, arr, o, hm, hr => by
  simp only [mxL] at hm
  simp only [rdC] at hr ⊢
  obtain ⟨⟨v, h1, h1', h2⟩, h3⟩ := hr
  exact ⟨⟨v, h1, h1', rd_weak W d v (by omega) h2⟩, rdC_weak W ds arr _ (by omega) h3⟩
theorem rdR_weak (W : Weak cur cur' M M' h h' n) : ∀ (k : Nat) (es : List (List DVal)) (arr : Array Value) (o : Nat), mxR es ≤ n → rdR cur M h k es arr o → rdR cur' M' h' k es arr o
 | _, [], _, _, _, _ => by simp [rdR]
 | k, cs :: es, arr, o, hm, hr => by
  simp only [mxR] at hm
  simp only [rdR] at hr ⊢
  obtain ⟨h1, h2, h3⟩ := hr
  exact ⟨h1, rdC_weak W cs arr o (by omega) h2, rdR_weak W k es arr _ (by omega) h3⟩
theorem rdV_weak (W : Weak cur cur' M M' h h' n) : ∀ (ds : List DVal) (vs : List Value), mxL ds ≤ n → rdV cur M h ds vs → rdV cur' M' h' ds vs
 | [], _, _, hr => by simpa [rdV] using hr
 | d :: ds, vs, hm, hr => by
  simp only [mxL] at hm
  simp only [rdV] at hr ⊢
  obtain ⟨v, r, h1, h2, h3⟩ := hr
  exact ⟨v, r, h1, rd_weak W d v (by omega) h2, rdV_weak W ds r (by omega) h3⟩
end
end
class DMode where
 dr : Bool
instance (priority := low) laxMode : DMode := ⟨false⟩
variable [DMode]
structure Abs where
 J : List Nat → List Nat → Value → Array Obj → Prop
 weak : ∀ M M' bl hd h h', (∀ b o, b ∉ M → isD o = true → h[b]? = some o → h'[b]? = some o) → (∀ b o, b ∉ M → isD o = true → h[b]? = some o → b ∉ M') → (∀ b o, b ∈ bl → h[b]? = some o → h'[b]? = some o) → J M bl hd h → J M' bl hd h'
 one : ∀ M bl hd h, J M bl hd h → hd.oneCell' = true ∧ hd.cells = #[hd]
 nd : ∀ M bl hd h, J M bl hd h → ∀ b ∈ bl, ∀ c, h[b]? ≠ some (.deferred c)
inductive Tr (α : Type) where
 | E
 | N (v : Option α) (l r : Tr α)
noncomputable def Tr.get {α : Type} (t : Tr α) (p : List Bool) : Option α :=
 List.rec (motive := fun _ => Tr α → Option α) (fun t => Tr.rec (motive := fun _ => Option α) none (fun v _ _ _ _ => v) t)
  (fun b _ ih t => Tr.rec (motive := fun _ => Option α) none (fun _ l r _ _ => Bool.rec (ih l) (ih r) b) t) p t
noncomputable def pathF (f n : Nat) : List Bool :=
 Nat.rec (motive := fun _ => Nat → List Bool) (fun _ => []) (fun _ ih m => Bool.rec (Nat.beq (m % 2) 1 :: ih (m / 2)) [] (Nat.beq m 0)) f n
noncomputable def path (n : Nat) : List Bool := pathF n n
structure Stg (α : Type) where
 f : α
def PT (α : Type) : Nat → Type
 | 0 => α
 | n + 1 => PT α n × PT α n
noncomputable def bitN (i n : Nat) : Bool := Nat.beq (Nat.land (Nat.shiftRight i n) 1) 1
noncomputable def PT.mk {α : Type} (n : Nat) (x : α) : PT α n := Nat.rec (motive := fun n => PT α n) x (fun _ ih => (ih, ih)) n
noncomputable def PT.getS {α : Type} (n i : Nat) : Stg (PT α n → α) :=
 Nat.rec (motive := fun n => Stg (PT α n → α)) ⟨fun T => T⟩ (fun n ih => Stg.rec (motive := fun _ => Stg (PT α (n + 1) → α)) (fun f => Bool.rec (motive := fun _ => Stg (PT α (n + 1) → α)) ⟨fun T => f T.1⟩ ⟨fun T => f T.2⟩ (bitN i n)) ih) n
noncomputable def PT.putS {α : Type} (n i : Nat) : Stg (α → PT α n → PT α n) :=
 Nat.rec (motive := fun n => Stg (α → PT α n → PT α n)) ⟨fun x _ => x⟩ (fun n ih => Stg.rec (motive := fun _ => Stg (α → PT α (n + 1) → PT α (n + 1))) (fun f => Bool.rec (motive := fun _ => Stg (α → PT α (n + 1) → PT α (n + 1))) ⟨fun x T => (f x T.1, T.2)⟩ ⟨fun x T => (T.1, f x T.2)⟩ (bitN i n)) ih) n
structure Mp (α : Type) (D : Nat) where
 p : PT (Option α) D
 o : Tr α
noncomputable def Tr.put {α : Type} (x : α) (p : List Bool) (t : Tr α) : Tr α :=
 List.rec (motive := fun _ => Tr α → Tr α) (fun t => Tr.rec (motive := fun _ => Tr α) (.N (some x) .E .E) (fun _ l r _ _ => .N (some x) l r) t)
  (fun b _ ih t => Tr.rec (motive := fun _ => Tr α) (Bool.rec (.N none (ih .E) .E) (.N none .E (ih .E)) b) (fun v l r _ _ => Bool.rec (.N v (ih l) r) (.N v l (ih r)) b) t) p t
noncomputable def Mp.mt {α : Type} (D : Nat) : Mp α D := ⟨PT.mk D none, .E⟩
noncomputable def Mp.getS {α : Type} (D i : Nat) : Stg (Mp α D → Option α) :=
 Bool.rec (motive := fun _ => Stg (Mp α D → Option α)) ⟨fun T => T.o.get (path i)⟩ (Stg.rec (motive := fun _ => Stg (Mp α D → Option α)) (fun f => ⟨fun T => f T.p⟩) (PT.getS (α := Option α) D i)) (Nat.blt i (2 ^ D))
noncomputable def Mp.putS {α : Type} (D i : Nat) : Stg (α → Mp α D → Mp α D) :=
 Bool.rec (motive := fun _ => Stg (α → Mp α D → Mp α D)) ⟨fun x T => ⟨T.p, T.o.put x (path i)⟩⟩ (Stg.rec (motive := fun _ => Stg (α → Mp α D → Mp α D)) (fun f => ⟨fun x T => ⟨f (some x) T.p, T.o⟩⟩) (PT.putS (α := Option α) D i)) (Nat.blt i (2 ^ D))
noncomputable def Mp.get {α : Type} {D : Nat} (T : Mp α D) (i : Nat) : Option α := (Mp.getS D i).f T
noncomputable def Mp.put {α : Type} {D : Nat} (x : α) (i : Nat) (T : Mp α D) : Mp α D := (Mp.putS D i).f x T
abbrev Sl := Mp DVal 7
noncomputable def sget (T : Sl) (i : Nat) : DVal := Option.rec (motive := fun _ => DVal) .any (fun d => d) (T.get i)
inductive LSt where
 | ready
 | busy
 | done (j : Code)
 | out (p : Option Code)
def LSt.s : LSt → LoopState
 | .ready => .ready
 | .busy => .busy
 | .done _ => .done
 | .out _ => .exhausted
def LSt.p : LSt → Option Code
 | .done j => some j
 | .out p => p
 | _ => none
inductive DObj where
 | box (cs : List DVal)
 | row (et : TypeId) (k bs : Nat) (es : List (List DVal))
 | map (ks vs : List DVal)
 | mapD (ks vs : List DVal)
 | abs (A : Abs)
 | lrec (st : LSt) (sl : Sl) (nt : Nat) (ps : Array Tmp) (assign body : Code)
 | glob (g : Nat) (vs : List Nat)
def globD (vs : List Nat) : List DVal := vs.map fun (n : Nat) => .int .u8 (n : Int)
theorem mxL_globD (vs : List Nat) : mxL (globD vs) = 0 := by
 unfold globD
 induction vs with
 | nil => simp [mxL]
 | cons n vs ih => simp [mxL, mx, ih]
structure Ent where
 id : Nat
 r : Nat
 obj : DObj
structure DS where
 slots : List (Nat × DVal)
 own : List Ent
def getS : List (Nat × DVal) → Nat → DVal
 | [], _ => .any
 | (j, d) :: t, i => if i = j then d else getS t i
def findE : List Ent → Nat → Option Ent
 | [], _ => none
 | e :: t, id => if e.id = id then some e else findE t id
def setE : List Ent → Nat → DObj → List Ent
 | [], _, _ => []
 | e :: t, id, o => if e.id = id then ⟨e.id, e.r, o⟩ :: t else e :: setE t id o
def delE : List Ent → Nat → List Ent
 | [], _ => []
 | e :: t, id => if e.id = id then delE t id else e :: delE t id
def mxS : List (Nat × DVal) → Nat
 | [] => 0
 | p :: t => max (mx p.2) (mxS t)
theorem mx_getS (l : List (Nat × DVal)) (i : Nat) : mx (getS l i) ≤ mxS l := by
 induction l with
 | nil => simp [getS, mx, mxS]
 | cons p t ih =>
  obtain ⟨j, d⟩ := p
  simp only [getS, mxS]
  split <;> omega
def Tr.dep {α : Type} : Tr α → Nat
 | .E => 0
 | .N _ l r => max l.dep r.dep + 1
theorem Tr.get_dep {α : Type} : ∀ (t : Tr α) (p : List Bool), t.dep ≤ p.length → t.get p = none
 | .E, [], _ => rfl
 | .E, _ :: _, _ => rfl
 | .N v l r, [], h => by simp [Tr.dep] at h
 | .N v l r, b :: p, h => by
  simp only [Tr.dep, List.length_cons] at h
  cases b
  ·exact Tr.get_dep l p (by omega)
  ·exact Tr.get_dep r p (by omega)
theorem pathF_succ (f n : Nat) : pathF (f + 1) n = if Nat.beq n 0 then [] else Nat.beq (n % 2) 1 :: pathF f (n / 2) := by
 show Bool.rec (motive := fun _ => List Bool) _ _ (Nat.beq n 0) = _
 cases Nat.beq n 0 <;> rfl
theorem pathF_len : ∀ (f n : Nat), n ≤ f → n < 2 ^ (pathF f n).length
 | 0, n, h => by
  have : n = 0 := by omega
  subst this
  show 0 < 2 ^ _
  exact Nat.two_pow_pos _
 | f + 1, n, h => by
  rw [pathF_succ]
  split
  ·rename_i h0; have := Nat.eq_of_beq_eq_true h0; subst this; simp
  ·rename_i h0
   have h0 : n ≠ 0 := fun e => h0 (by rw [e]; rfl)
   have := pathF_len f (n / 2) (by omega)
   simp only [List.length_cons, Nat.pow_succ]
   omega
theorem Tr.get_E {α : Type} (p : List Bool) : (Tr.E : Tr α).get p = none := by cases p <;> rfl
theorem Tr.get_put {α : Type} (x : α) : ∀ (p : List Bool) (t : Tr α), (Tr.put x p t).get p = some x
 | [], .E => rfl
 | [], .N _ _ _ => rfl
 | b :: p, .E => by cases b <;> exact Tr.get_put x p .E
 | b :: p, .N v l r => by
  cases b
  ·exact Tr.get_put x p l
  ·exact Tr.get_put x p r
theorem Tr.get_put_ne {α : Type} (x : α) : ∀ (p q : List Bool) (t : Tr α), p ≠ q → (Tr.put x p t).get q = t.get q
 | [], [], _, h => absurd rfl h
 | [], c :: q, .E, _ => by
  cases c
  ·exact Tr.get_E q
  ·exact Tr.get_E q
 | [], c :: q, .N _ _ _, _ => by cases c <;> rfl
 | b :: p, [], .E, _ => by cases b <;> rfl
 | b :: p, [], .N _ _ _, _ => by cases b <;> rfl
 | b :: p, c :: q, .E, h => by
  cases b <;> cases c
  ·exact (Tr.get_put_ne x p q .E (by simpa using h)).trans (Tr.get_E q)
  ·exact Tr.get_E q
  ·exact Tr.get_E q
  ·exact (Tr.get_put_ne x p q .E (by simpa using h)).trans (Tr.get_E q)
 | b :: p, c :: q, .N v l r, h => by
  cases b <;> cases c
  ·exact Tr.get_put_ne x p q l (by simpa using h)
  ·rfl
  ·rfl
  ·exact Tr.get_put_ne x p q r (by simpa using h)
theorem pathF_inj : ∀ (a b m n : Nat), m ≤ a → n ≤ b → pathF a m = pathF b n → m = n
 | 0, 0, m, n, hm, hn, _ => by omega
 | 0, b + 1, m, n, hm, hn, h => by
  rw [pathF_succ] at h
  split at h
  ·rename_i h0; have := Nat.eq_of_beq_eq_true h0; omega
  ·cases h
 | a + 1, 0, m, n, hm, hn, h => by
  rw [pathF_succ] at h
  split at h
  ·rename_i h0; have := Nat.eq_of_beq_eq_true h0; omega
  ·cases h
 | a + 1, b + 1, m, n, hm, hn, h => by
  rw [pathF_succ, pathF_succ] at h
  split at h
  ·rename_i h0
   have h0 := Nat.eq_of_beq_eq_true h0
   split at h
   ·rename_i h1; have h1 := Nat.eq_of_beq_eq_true h1; omega
   ·simp at h
  ·rename_i h0
   split at h
   ·simp at h
   ·rename_i h1
    have h0 : m ≠ 0 := fun e => h0 (by rw [e]; rfl)
    have h1 : n ≠ 0 := fun e => h1 (by rw [e]; rfl)
    simp only [List.cons.injEq] at h
    have := pathF_inj a b (m / 2) (n / 2) (by omega) (by omega) h.2
    have h2 : (m % 2 = 1) ↔ (n % 2 = 1) := by
     rw [← Nat.beq_eq, ← Nat.beq_eq, h.1]
    omega
theorem path_inj {m n : Nat} (h : path m = path n) : m = n := pathF_inj m n m n (Nat.le_refl _) (Nat.le_refl _) h
theorem bitN_eq (i n : Nat) : bitN i n = Nat.testBit i n := by
 unfold bitN
 rw [Bool.eq_iff_iff, Nat.beq_eq]
 show (Nat.shiftRight i n) &&& 1 = 1 ↔ _
 rw [Nat.and_one_is_mod, Nat.testBit_eq_decide_div_mod_eq]
 show (i >>> n) % 2 = 1 ↔ _
 rw [Nat.shiftRight_eq_div_pow]
 simp
theorem PT.getS_succ {α : Type} (n i : Nat) (T : PT α (n + 1)) : (PT.getS (α := α) (n + 1) i).f T = if bitN i n = true then (PT.getS n i).f T.2 else (PT.getS n i).f T.1 := by
 have h : PT.getS (α := α) (n + 1) i = Stg.rec (motive := fun _ => Stg (PT α (n + 1) → α)) (fun f => Bool.rec (motive := fun _ => Stg (PT α (n + 1) → α)) ⟨fun T => f T.1⟩ ⟨fun T => f T.2⟩ (bitN i n)) (PT.getS n i) := rfl
 rw [h]
 cases PT.getS (α := α) n i
 cases bitN i n <;> rfl
theorem PT.putS_succ {α : Type} (n i : Nat) (x : α) (T : PT α (n + 1)) : (PT.putS (α := α) (n + 1) i).f x T = if bitN i n = true then (T.1, (PT.putS n i).f x T.2) else ((PT.putS n i).f x T.1, T.2) := by
 have h : PT.putS (α := α) (n + 1) i = Stg.rec (motive := fun _ => Stg (α → PT α (n + 1) → PT α (n + 1))) (fun f => Bool.rec (motive := fun _ => Stg (α → PT α (n + 1) → PT α (n + 1))) ⟨fun x T => (f x T.1, T.2)⟩ ⟨fun x T => (T.1, f x T.2)⟩ (bitN i n)) (PT.putS n i) := rfl
 rw [h]
 cases PT.putS (α := α) n i
 cases bitN i n <;> rfl
theorem PT.get_put {α : Type} (i : Nat) (x : α) : ∀ (n : Nat) (T : PT α n), (PT.getS n i).f ((PT.putS n i).f x T) = x
 | 0, T => rfl
 | n + 1, T => by
  rw [PT.getS_succ, PT.putS_succ]
  split <;> exact PT.get_put i x n _
theorem PT.get_put_ne {α : Type} (i j : Nat) (x : α) : ∀ (n : Nat) (T : PT α n), (∃ k, k < n ∧ Nat.testBit i k ≠ Nat.testBit j k) → (PT.getS n j).f ((PT.putS n i).f x T) = (PT.getS n j).f T
 | 0, T, h => by obtain ⟨k, h, _⟩ := h; omega
 | n + 1, T, h => by
  rw [PT.getS_succ, PT.putS_succ, PT.getS_succ, bitN_eq, bitN_eq]
  by_cases hb : Nat.testBit i n = Nat.testBit j n
  ·have h' : ∃ k, k < n ∧ Nat.testBit i k ≠ Nat.testBit j k := by
    obtain ⟨k, h1, h2⟩ := h
    refine ⟨k, ?_, h2⟩
    rcases Nat.lt_or_ge k n with hk | hk
    ·exact hk
    ·have : k = n := by omega
     subst this
     exact absurd hb h2
   rw [hb]
   split
   ·exact PT.get_put_ne i j x n _ h'
   ·exact PT.get_put_ne i j x n _ h'
  ·by_cases h1 : Nat.testBit i n = true
   ·have h2 : Nat.testBit j n = false := by cases h3 : Nat.testBit j n <;> simp_all
    rw [h1, h2]; simp
   ·have h1 : Nat.testBit i n = false := by simpa using h1
    have h2 : Nat.testBit j n = true := by cases h3 : Nat.testBit j n <;> simp_all
    rw [h1, h2]; simp
theorem PT.get_mk {α : Type} (i : Nat) (x : α) : ∀ n : Nat, (PT.getS n i).f (PT.mk n x) = x
 | 0 => rfl
 | n + 1 => by
  rw [PT.getS_succ]
  split <;> exact PT.get_mk i x n
theorem Mp.get_eq {α : Type} {D : Nat} (T : Mp α D) (i : Nat) : T.get i = if i < 2 ^ D then (PT.getS D i).f T.p else T.o.get (path i) := by
 unfold Mp.get Mp.getS
 cases h : Nat.blt i (2 ^ D) with
 | true => have h' : i < 2 ^ D := Nat.le_of_ble_eq_true h; rw [if_pos h']
 | false => rw [if_neg (fun h' => by rw [show Nat.blt i (2 ^ D) = true from Nat.ble_eq_true_of_le h'] at h; simp at h)]
theorem Mp.put_eq {α : Type} {D : Nat} (x : α) (T : Mp α D) (i : Nat) : Mp.put x i T = if i < 2 ^ D then ⟨(PT.putS D i).f (some x) T.p, T.o⟩ else ⟨T.p, T.o.put x (path i)⟩ := by
 unfold Mp.put Mp.putS
 cases h : Nat.blt i (2 ^ D) with
 | true => have h' : i < 2 ^ D := Nat.le_of_ble_eq_true h; rw [if_pos h']
 | false => rw [if_neg (fun h' => by rw [show Nat.blt i (2 ^ D) = true from Nat.ble_eq_true_of_le h'] at h; simp at h)]
theorem Mp.get_put {α : Type} {D : Nat} (x : α) (i : Nat) (T : Mp α D) : (Mp.put x i T).get i = some x := by
 rw [Mp.get_eq, Mp.put_eq]
 split
 ·exact PT.get_put _ _ _ _
 ·exact Tr.get_put _ _ _
theorem Mp.get_put_ne {α : Type} {D : Nat} (x : α) {i j : Nat} (T : Mp α D) (h : i ≠ j) : (Mp.put x i T).get j = T.get j := by
 rw [Mp.get_eq, Mp.get_eq, Mp.put_eq]
 by_cases hi : i < 2 ^ D
 ·rw [if_pos hi]
  by_cases hj : j < 2 ^ D
  ·rw [if_pos hj, if_pos hj]
   refine PT.get_put_ne _ _ _ _ _ ?_
   refine Classical.byContradiction fun hn => h (Nat.eq_of_testBit_eq fun k => ?_)
   rcases Nat.lt_or_ge k D with hk | hk
   ·exact Classical.byContradiction fun hne => hn ⟨k, hk, hne⟩
   ·have hp := Nat.pow_le_pow_right (show 0 < 2 by decide) hk
    rw [Nat.testBit_lt_two_pow (by omega), Nat.testBit_lt_two_pow (by omega)]
  ·rw [if_neg hj, if_neg hj]
 ·rw [if_neg hi]
  by_cases hj : j < 2 ^ D
  ·rw [if_pos hj, if_pos hj]
  ·rw [if_neg hj, if_neg hj]
   exact Tr.get_put_ne _ _ _ _ fun e => h (path_inj e)
theorem Mp.get_mt {α : Type} {D : Nat} (i : Nat) : (Mp.mt D : Mp α D).get i = none := by
 rw [Mp.get_eq]
 split
 ·exact PT.get_mk _ _ _
 ·exact Tr.get_E _
noncomputable def Sl.bnd (T : Sl) : Nat := max (2 ^ 7) (2 ^ T.o.dep)
theorem sget_dep (T : Sl) (i : Nat) (h : Sl.bnd T ≤ i) : sget T i = .any := by
 unfold Sl.bnd at h
 have h1 := pathF_len i i (Nat.le_refl _)
 have h2 : T.o.dep ≤ (path i).length := by
  refine Nat.le_of_lt (Nat.lt_of_not_le fun hle => ?_)
  have := Nat.pow_le_pow_right (show 0 < 2 by decide) hle
  unfold path at this
  omega
 unfold sget
 rw [Mp.get_eq, if_neg (by omega), Tr.get_dep T.o _ h2]
noncomputable def listT (T : Sl) : List (Nat × DVal) := (List.range (Sl.bnd T)).map fun i => (i, sget T i)
noncomputable def mxT (T : Sl) : Nat := mxS (listT T)
theorem getS_map (f : Nat → DVal) : ∀ (l : List Nat) (i : Nat), getS (l.map fun i => (i, f i)) i = if i ∈ l then f i else .any
 | [], i => by simp [getS]
 | j :: l, i => by
  simp only [List.map_cons, getS, getS_map f l i]
  by_cases h : i = j
  ·subst h; simp
  ·simp [h]
theorem listT_get (T : Sl) (i : Nat) : getS (listT T) i = sget T i := by
 unfold listT
 rw [getS_map]
 split
 ·rfl
 ·rename_i h
  rw [sget_dep T i (by simpa using h)]
theorem mx_sget (T : Sl) (i : Nat) : mx (sget T i) ≤ mxT T := by
 rw [← listT_get]
 exact mx_getS _ _
theorem mxT_le {T : Sl} {n : Nat} (h : ∀ i, mx (sget T i) ≤ n) : mxT T ≤ n := by
 unfold mxT listT
 generalize List.range (Sl.bnd T) = l
 induction l with
 | nil => simp [mxS]
 | cons j l ih =>
  simp only [List.map_cons, mxS]
  have := h j
  omega
noncomputable def mxO : DObj → Nat
 | .box cs => mxL cs
 | .row _ _ _ es => mxR es
 | .map ks vs => max (mxL ks) (mxL vs)
 | .mapD ks vs => max (mxL ks) (mxL vs)
 | .abs _ => 0
 | .lrec _ sl _ _ _ _ => mxT sl
 | .glob _ _ => 0
noncomputable def mxE : List Ent → Nat
 | [] => 0
 | e :: t => max (max (e.r + 1) (mxO e.obj)) (mxE t)
theorem mem_mxE {own : List Ent} {e : Ent} (h : e ∈ own) : e.r < mxE own ∧ mxO e.obj ≤ mxE own := by
 induction own with
 | nil => cases h
 | cons a t ih =>
  simp only [mxE]
  rcases List.mem_cons.1 h with rfl | h
  ·omega
  ·have := ih h; omega
def curOf (own : List Ent) (loc : Nat → Loc) : Cur := fun id r =>
 match findE own id with
 | some e => if e.r = r then some (loc id) else none
 | none => none
def hotOf (own : List Ent) (loc : Nat → Loc) : List Nat := own.flatMap fun e => (loc e.id).blks
section
variable (cur : Cur) (M : List Nat) (h : Array Obj)
def ObjOK (l : Loc) : DObj → Prop
 | .box cs => ∃ b arr ty, l.blks = [b] ∧ h[b]? = some (.cells arr ty (0, 0)) ∧ arr.size = cs.length ∧ rdC cur M h cs arr 0
 | .row et k bs es => es.length * bs ≤ 150000000000000 ∧ ((es = [] ∧ l.blks = [] ∧ l.hdr = .slice none 0 0) ∨
  ∃ b arr cap, l.blks = [b] ∧ l.hdr = .slice (some ⟨b, 0, none⟩) es.length cap ∧ h[b]? = some (.cells arr et (0, 0)) ∧ es.length ≤ cap ∧ cap ≤ maxLen ∧ cap * k = arr.size ∧ rdR cur M h k es arr 0)
 | .map ks vs => ∃ b es clk, l.blks = [b] ∧ h[b]? = some (.map es clk) ∧ bornC es clk ∧ rdV cur M h ks (es.toList.map (·.key)) ∧ rdV cur M h vs (es.toList.map (·.val))
 | .mapD ks vs => ∃ b es clk, l.blks = [b] ∧ h[b]? = some (.map es clk) ∧ bornOK es clk ∧ rdV cur M h ks (es.toList.map (·.key)) ∧ rdV cur M h vs (es.toList.map (·.val))
 | .abs A => A.J M l.blks l.hdr h
 | .glob g vs => l.blks = [g] ∧ ∃ arr ty, h[g]? = some (.cells arr ty (0, 0)) ∧ rdC cur M h (globD vs) arr 0 ∧ l.hdr = .agg (arr.push (.int .i64 (ty : Nat)))
 | .lrec st sl nt ps assign body => ∃ b fn tm df, l.blks = [b] ∧ l.hdr = .func (.yield b) #[] #[] ∧ h[b]? = some (.loop { state := st.s, pending := st.p, fn, tmps := tm, params := ps, assign, body, defers := df }) ∧ tm.size = nt ∧
  ∀ i, rd cur M h (sget sl i) (tm.getD i Go.undef)
end
theorem ObjOK_weak {cur cur' : Cur} {M M' : List Nat} {h h' : Array Obj} {n : Nat} {l : Loc} {obj : DObj} (W : Weak cur cur' M M' h h' n) (hn : mxO obj ≤ n)
  (keep : ∀ b o, b ∈ l.blks → h[b]? = some o → h'[b]? = some o) (hk : ObjOK cur M h l obj) : ObjOK cur' M' h' l obj := by
 cases obj with
 | box cs =>
  simp only [mxO] at hn
  obtain ⟨b, arr, ty, h1, h2, h3, h4⟩ := hk
  exact ⟨b, arr, ty, h1, keep b _ (by simp [h1]) h2, h3, rdC_weak W cs arr 0 hn h4⟩
 | row et k bs es =>
  simp only [mxO] at hn
  obtain ⟨h0, hk⟩ := hk
  refine ⟨h0, hk.imp id ?_⟩
  rintro ⟨b, arr, cap, h1, h2, h3, h4, h5, h6, h7⟩
  exact ⟨b, arr, cap, h1, h2, keep b _ (by simp [h1]) h3, h4, h5, h6, rdR_weak W k es arr 0 hn h7⟩
 | map ks vs =>
  simp only [mxO] at hn
  obtain ⟨b, es, clk, h1, h2, h3, h4, h5⟩ := hk
  exact ⟨b, es, clk, h1, keep b _ (by simp [h1]) h2, h3, rdV_weak W ks _ (by omega) h4, rdV_weak W vs _ (by omega) h5⟩
 | mapD ks vs =>
  simp only [mxO] at hn
  obtain ⟨b, es, clk, h1, h2, h3, h4, h5⟩ := hk
  exact ⟨b, es, clk, h1, keep b _ (by simp [h1]) h2, h3, rdV_weak W ks _ (by omega) h4, rdV_weak W vs _ (by omega) h5⟩
 | abs A => exact A.weak M M' l.blks l.hdr h h' W.b W.m keep hk
 | glob g vs =>
  obtain ⟨h1, arr, ty, h2, h3, h4⟩ := hk
  exact ⟨h1, arr, ty, keep g _ (by simp [h1]) h2, rdC_weak W _ arr 0 (by rw [mxL_globD]; exact Nat.zero_le _) h3, h4⟩
 | lrec st sl nt ps assign body =>
  simp only [mxO] at hn
  obtain ⟨b, fn, tm, df, h1, h2, h3, h4, h5⟩ := hk
  exact ⟨b, fn, tm, df, h1, h2, keep b _ (by simp [h1]) h3, h4, fun i => rd_weak W _ _ (Nat.le_trans (mx_sget sl i) hn) (h5 i)⟩
structure St (own : List Ent) (loc : Nat → Loc) (M0 : List Nat) (h : Array Obj) : Prop where
 nd : (own.map (·.id)).Nodup
 bl : (hotOf own loc).Nodup
 ap : ∀ b ∈ hotOf own loc, b ∉ M0
 lt : ∀ b ∈ hotOf own loc ++ M0, b < h.size
 ok : ∀ e ∈ own, ObjOK (curOf own loc) (hotOf own loc ++ M0) h (loc e.id) e.obj
structure Upd (H : List Nat) (w w' : World) : Prop where
 os : w'.os = w.os
 tape : w'.tape = w.tape
 output : w'.output = w.output
 drawn : DMode.dr = true → w.drawn ≤ w'.drawn
 size : w.heap.size ≤ w'.heap.size
 blk : ∀ b, b < w.heap.size → b ∉ H → w'.heap[b]? = w.heap[b]?
theorem Upd.refl (H : List Nat) (w : World) : Upd H w w := ⟨rfl, rfl, rfl, fun _ => Nat.le_refl _, Nat.le_refl _, fun _ _ _ => rfl⟩
theorem Upd.trans {H H' : List Nat} {a b c : World} (h : Upd H a b) (k : Upd H' b c) (hh : ∀ x ∈ H', x ∈ H ∨ a.heap.size ≤ x) : Upd H a c :=
 ⟨k.os.trans h.os, k.tape.trans h.tape, k.output.trans h.output, fun hd => Nat.le_trans (h.drawn hd) (k.drawn hd), Nat.le_trans h.size k.size, fun x hx hn =>
  (k.blk x (Nat.lt_of_lt_of_le hx h.size) (fun hm => by rcases hh x hm with h1 | h1; exact hn h1; omega)).trans (h.blk x hx hn)⟩
theorem Upd.alloc (H : List Nat) (w : World) (o : Obj) : Upd H w (w.alloc o) :=
 ⟨rfl, rfl, rfl, fun _ => Nat.le_refl _, by simp, fun b hb _ => by simp only [World.alloc, Array.getElem?_push]; rw [if_neg (by omega)]⟩
theorem Upd.drew (H : List Nat) (w : World) : Upd H w w.drew := ⟨rfl, rfl, rfl, fun _ => by simp, Nat.le_refl _, fun _ _ _ => rfl⟩
theorem Upd.nil {H : List Nat} {w w' : World} (h : Upd [] w w') : Upd H w w' := ⟨h.os, h.tape, h.output, h.drawn, h.size, fun b hb _ => h.blk b hb (by simp)⟩
structure Base where
 own0 : List Ent
 loc0 : Nat → Loc
 M0 : List Nat
 N : Nat
 w0 : World
 nt : Nat
 ro : Option Nat := none
 nd : Nat
 hnd : nd ≤ w0.heap.size
 idle : List (FuncId × Nat) := []
structure BaseN extends Base where
 hN : toBase.N ≤ 1
instance : Coe BaseN Base := ⟨BaseN.toBase⟩
abbrev DItem := Nat ⊕ (FuncId × Array Value)
def toDef : DItem → Deferred
 | .inl r => { target := .collected r, args := #[] }
 | .inr (g, cs) => { target := .fn (.func g) cs, args := #[] }
def marksOf : List DItem → List Nat
 | [] => []
 | .inl r :: t => r :: marksOf t
 | .inr _ :: t => marksOf t
def DfOK (B : Base) (M : List Nat) (a : Act) (h : Array Obj) : Prop :=
 ∃ its : List DItem, a.defers = its.map toDef ∧ (marksOf its).Nodup ∧ (∀ r ∈ marksOf its, h[r]? = some (.deferred (some [])) ∧ B.nd ≤ r ∧ r ∉ M) ∧ (B.ro ≠ none → its = []) ∧ ∀ g cs, (.inr (g, cs) : DItem) ∈ its → (g, cs.size) ∈ B.idle
theorem DfOK.keep {B : Base} {M M' H : List Nat} {a a' : Act} {w w' : World} (hd : DfOK B M a w.heap) (ha : a'.defers = a.defers)
  (hu : Upd H w w') (hH : ∀ x ∈ H, x ∈ M) (hm : ∀ b ∈ M', b ∈ M ∨ w.heap.size ≤ b) : DfOK B M' a' w'.heap := by
 obtain ⟨its, h1, h0, h2, h3⟩ := hd
 refine ⟨its, ha.trans h1, h0, fun r hr => ?_, h3⟩
 obtain ⟨g1, g2, g3⟩ := h2 r hr
 have hlt := (Array.getElem?_eq_some_iff.1 g1).1
 refine ⟨by rw [hu.blk r hlt (fun h => g3 (hH r h))]; exact g1, g2, fun h => ?_⟩
 rcases hm r h with h | h
 ·exact g3 h
 ·omega
structure Rel (B : Base) (s : DS) (a : Act) (w : World) (loc : Nat → Loc) : Prop where
 st : St s.own loc B.M0 w.heap
 upd : Upd (hotOf B.own0 B.loc0) B.w0 w
 new : ∀ b ∈ hotOf s.own loc, b ∈ hotOf B.own0 B.loc0 ∨ B.w0.heap.size ≤ b
 ver : ∀ e ∈ s.own, e.r < B.N → curOf B.own0 B.loc0 e.id e.r = some (loc e.id)
 sl : ∀ i, rd (curOf s.own loc) (hotOf s.own loc ++ B.M0) w.heap (getS s.slots i) (a.tmps.getD i Go.undef)
 nt : a.tmps.size = B.nt
 df : DfOK B (hotOf s.own loc ++ B.M0) a w.heap
theorem findE_mem {own : List Ent} {id : Nat} {e : Ent} (h : findE own id = some e) : e ∈ own ∧ e.id = id := by
 induction own with
 | nil => simp [findE] at h
 | cons a t ih =>
  simp only [findE] at h
  split at h
  ·simp only [Option.some.injEq] at h; subst h; exact ⟨List.mem_cons_self, by assumption⟩
  ·have := ih h; exact ⟨List.mem_cons_of_mem _ this.1, this.2⟩
theorem findE_of_mem {own : List Ent} (nd : (own.map (·.id)).Nodup) {e : Ent} (h : e ∈ own) : findE own e.id = some e := by
 induction own with
 | nil => cases h
 | cons a t ih =>
  simp only [List.map_cons, List.nodup_cons] at nd
  simp only [findE]
  rcases List.mem_cons.1 h with rfl | h
  ·simp
  ·rw [if_neg, ih nd.2 h]
   intro he
   exact nd.1 (he ▸ List.mem_map_of_mem (f := (·.id)) h)
theorem curOf_some {own : List Ent} {loc : Nat → Loc} {id r : Nat} {l : Loc} (h : curOf own loc id r = some l) : ∃ e ∈ own, e.id = id ∧ e.r = r ∧ l = loc id := by
 unfold curOf at h
 split at h
 ·rename_i e he
  split at h
  ·simp only [Option.some.injEq] at h
   obtain ⟨h1, h2⟩ := findE_mem he
   exact ⟨e, h1, h2, by assumption, h.symm⟩
  ·simp at h
 ·simp at h
theorem mem_hot {own : List Ent} {loc : Nat → Loc} {e : Ent} {b : Nat} (h : e ∈ own) (hb : b ∈ (loc e.id).blks) : b ∈ hotOf own loc :=
 List.mem_flatMap.2 ⟨e, h, hb⟩
theorem weak_step {own own' : List Ent} {loc loc' : Nat → Loc} {M0 : List Nat} {w w' : World} {n : Nat}
  (hupd : Upd (hotOf own loc) w w') (hnew : ∀ b ∈ hotOf own' loc', b ∈ hotOf own loc ∨ w.heap.size ≤ b)
  (hver : ∀ e ∈ own', e.r < n → curOf own loc e.id e.r = some (loc' e.id)) :
  Weak (curOf own loc) (curOf own' loc') (hotOf own loc ++ M0) (hotOf own' loc' ++ M0) w.heap w'.heap n where
 c := by
  intro id r l hr hl
  obtain ⟨e, he, rfl, rfl, rfl⟩ := curOf_some hl
  exact hver e he hr
 b := by
  intro b o hb _ ho
  have hlt : b < w.heap.size := (Array.getElem?_eq_some_iff.1 ho).1
  rw [hupd.blk b hlt (fun h => hb (List.mem_append_left _ h))]
  exact ho
 m := by
  intro b o hb _ ho hm
  have hlt : b < w.heap.size := (Array.getElem?_eq_some_iff.1 ho).1
  rcases List.mem_append.1 hm with h | h
  ·rcases hnew b h with h1 | h1
   ·exact hb (List.mem_append_left _ h1)
   ·omega
  ·exact hb (List.mem_append_right _ h)
theorem getD_put (a : Act) (dst : Option Nat) (v : Value) (i : Nat) (hd : ∀ d, dst = some d → d < a.tmps.size) :
  (a.put dst v).tmps.getD i Go.undef = if dst = some i then v else a.tmps.getD i Go.undef := by
 cases dst with
 | none => simp [Act.put]
 | some d =>
  have := hd d rfl
  simp only [Act.put, Array.getD_eq_getD_getElem?, Array.getElem?_setIfInBounds, Option.some.injEq]
  by_cases h : d = i
  ·subst h; simp [this]
  ·simp [h]
theorem size_put (a : Act) (dst : Option Nat) (v : Value) : (a.put dst v).tmps.size = a.tmps.size := by
 cases dst <;> simp [Act.put]
theorem defers_put (a : Act) (dst : Option Nat) (v : Value) : (a.put dst v).defers = a.defers := by
 cases dst <;> rfl
def putS (l : List (Nat × DVal)) : Option Nat → DVal → List (Nat × DVal)
 | some i, d => (i, d) :: l
 | none, _ => l
theorem Rel.step {B : Base} {s : DS} {a : Act} {w w' : World} {loc loc' : Nat → Loc} {own' : List Ent} {n : Nat} {v : Value} {d : DVal} {dst : Option Nat}
  (R : Rel B s a w loc) (hn : B.N ≤ n) (hs : mxS s.slots ≤ n) (hdst : ∀ i, dst = some i → i < B.nt)
  (hst : St own' loc' B.M0 w'.heap) (hupd : Upd (hotOf s.own loc) w w')
  (hnew : ∀ b ∈ hotOf own' loc', b ∈ hotOf s.own loc ∨ w.heap.size ≤ b)
  (hver : ∀ e ∈ own', e.r < n → curOf s.own loc e.id e.r = some (loc' e.id))
  (hd : rd (curOf own' loc') (hotOf own' loc' ++ B.M0) w'.heap d v) :
  Rel B ⟨putS s.slots dst d, own'⟩ (a.put dst v) w' loc' where
 st := hst
 upd := R.upd.trans hupd R.new
 new := by
  intro b hb
  rcases hnew b hb with h | h
  ·exact R.new b h
  ·exact .inr (Nat.le_trans R.upd.size h)
 ver := by
  intro e he hr
  obtain ⟨e', he', h1, h2, h3⟩ := curOf_some (hver e he (Nat.lt_of_lt_of_le hr hn))
  have := R.ver e' he' (by omega)
  rw [h1, h2] at this
  rw [this, h3]
 sl := by
  intro i
  have hget := getD_put a dst v i (fun d hd => by rw [R.nt]; exact hdst d hd)
  rw [hget]
  have W := weak_step (M0 := B.M0) hupd hnew hver
  have hold : rd (curOf own' loc') (hotOf own' loc' ++ B.M0) w'.heap (getS s.slots i) (a.tmps.getD i Go.undef) :=
   rd_weak W _ _ (Nat.le_trans (mx_getS _ _) hs) (R.sl i)
  cases dst with
  | none => simpa [putS] using hold
  | some j =>
   simp only [putS, getS]
   by_cases hij : i = j
   ·subst hij; simpa using hd
   ·rw [if_neg hij, if_neg (fun h => hij (Option.some.inj h).symm)]; exact hold
 nt := by rw [size_put]; exact R.nt
 df := by
  refine R.df.keep (defers_put a dst v) hupd (fun x hx => List.mem_append_left _ hx) ?_
  intro b hb
  rcases List.mem_append.1 hb with h | h
  ·rcases hnew b h with h | h
   ·exact .inl (List.mem_append_left _ h)
   ·exact .inr h
  ·exact .inl (List.mem_append_right _ h)
theorem St.keep {own : List Ent} {loc : Nat → Loc} {M0 : List Nat} {w w' : World} (h : St own loc M0 w.heap) (u : Upd [] w w') : St own loc M0 w'.heap where
 nd := h.nd
 bl := h.bl
 ap := h.ap
 lt := fun b hb => Nat.lt_of_lt_of_le (h.lt b hb) u.size
 ok := by
  intro e he
  have W : Weak (curOf own loc) (curOf own loc) (hotOf own loc ++ M0) (hotOf own loc ++ M0) w.heap w'.heap (mxO e.obj) := by
   refine weak_step u.nil (fun b hb => .inl hb) ?_
   intro e' he' _
   unfold curOf
   rw [findE_of_mem h.nd he']
   simp
  have hb : ∀ b o, w.heap[b]? = some o → w'.heap[b]? = some o := fun b o ho => by
   rw [u.blk b (Array.getElem?_eq_some_iff.1 ho).1 (by simp)]; exact ho
  exact ObjOK_weak W (Nat.le_refl _) (fun b o _ ho => hb b o ho) (h.ok e he)
theorem curOf_self {own : List Ent} {loc : Nat → Loc} (nd : (own.map (·.id)).Nodup) {e : Ent} (he : e ∈ own) : curOf own loc e.id e.r = some (loc e.id) := by
 unfold curOf
 rw [findE_of_mem nd he]
 simp
theorem Rel.put {B : Base} {s : DS} {a : Act} {w w' : World} {loc : Nat → Loc} {v : Value} {d : DVal} {dst : Option Nat}
  (R : Rel B s a w loc) (hdst : ∀ i, dst = some i → i < B.nt) (hupd : Upd [] w w')
  (hd : rd (curOf s.own loc) (hotOf s.own loc ++ B.M0) w'.heap d v) : Rel B ⟨putS s.slots dst d, s.own⟩ (a.put dst v) w' loc :=
 R.step (n := max B.N (mxS s.slots)) (by omega) (by omega) hdst (R.st.keep hupd) hupd.nil (fun b hb => .inl hb) (fun e he _ => curOf_self R.st.nd he) hd
end Go.Dm
end
