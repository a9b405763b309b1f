/- The data machine, second make, part A: data, and how a datum reads in memory. No program, no statement. -/
import Derived.WalkKit
import Derived.Laws.Rows
set_option linter.unusedSimpArgs false
set_option linter.unusedVariables false
namespace Go.Dm

/-- A datum: what a slot or a cell holds, as far as it is known. 'bx', 'rx', 'osl', 'omp' lead to own objects (number, version). -/
inductive DVal where
  | any
  | undef
  | sel (c : Bool) (d : DVal)
  | bool (b : Bool)
  | int (k : IntKind) (n : Int)
  | str (s : ByteArray)
  | nilp
  | ref (cs : List DVal)
  | bx (id r off : Nat)
  | rx (id r k i j : Nat)
  | nilsl
  | esl
  | sl (k bs : Nat) (es : List (List DVal))
  | osl (id r : Nat)
  | vw (id r k bs i n : Nat)
  | nilmp
  | mp (ks vs : List DVal)
  | omp (id r : Nat)
  | pk (id r : Nat)
  | nilfn
  | fn (f : Fn) (first caps : List DVal)
  | nilifc
  | ifc (t : TypeId) (d : DVal)
  | agg (cs : List DVal)
  | tup (vs : List DVal)
  deriving Inhabited

/-- Where an own object lies: its blocks, and the value that leads to it. -/
structure Loc where
  blks : List Nat
  hdr : Value

/-- A map's entries were laid one behind the other. -/
def bornOK (es : Array MapEntry) (clk : Nat) : Prop := (es.toList.map (·.born)).Nodup ∧ ∀ e ∈ es.toList, e.born < clk

/-- A number fits its kind. -/
def inR : IntKind → Int → Prop
  | .i64, n => -9223372036854775808 ≤ n ∧ n ≤ 9223372036854775807
  | .u64, n => 0 ≤ n ∧ n ≤ 18446744073709551615
  | .u8, n => 0 ≤ n ∧ n ≤ 255
  | .i8, n => -128 ≤ n ∧ n ≤ 127
  | .i16, n => -32768 ≤ n ∧ n ≤ 32767
  | .u16, n => 0 ≤ n ∧ n ≤ 65535
  | .i32, n => -2147483648 ≤ n ∧ n ≤ 2147483647
  | .u32, n => 0 ≤ n ∧ n ≤ 4294967295

abbrev Cur := Nat → Nat → Option Loc

section
variable (cur : Cur) (M : List Nat) (h : Array Obj)
mutual
/-- Value v is what datum d says, in heap h; no block of M is met. -/
def rd : DVal → Value → Prop
  | .any, _ => True
  | .undef, v => v = Go.undef
  | .sel c d, v => (c = true → rd d v) ∧ (c = false → v = Go.undef)
  | .bool b, v => v = .bool b
  | .int k n, v => v = .int k n ∧ inR k n
  | .str s, v => v = .string s ∧ s.size ≤ maxLen
  | .nilp, v => v = .pointer none
  | .ref cs, v => ∃ b off arr ty fz, v = .pointer (some ⟨b, off, none⟩) ∧ b ∉ M ∧ h[b]? = some (.cells arr ty fz) ∧ rdC cs arr off
  | .bx id r off, v => ∀ l, cur id r = some l → ∃ b, l.blks = [b] ∧ v = .pointer (some ⟨b, off, none⟩)
  | .rx id r k i j, v => ∀ l, cur id r = some l → ∃ b, l.blks = [b] ∧ v = .pointer (some ⟨b, i * k + j, none⟩)
  | .nilsl, v => v = .slice none 0 0
  | .esl, v => ∃ ad cap, v = .slice (some ad) 0 cap ∧ cap ≤ maxLen
  | .sl k bs es, v => ∃ a cap, v = .slice a es.length cap ∧ es.length ≤ cap ∧ cap ≤ maxLen ∧ es.length * bs ≤ 140737488355328 ∧
      ((es = [] ∧ (a = none → cap = 0)) ∨ ∃ b off arr ty fz, a = some ⟨b, off, none⟩ ∧ b ∉ M ∧ h[b]? = some (.cells arr ty fz) ∧ rdR k es arr off)
  | .osl id r, v => ∀ l, cur id r = some l → v = l.hdr
  | .vw id r k _ i n, v => ∀ l, cur id r = some l → ∃ a cap, v = .slice a n cap ∧ n ≤ cap ∧ cap ≤ maxLen ∧ (a = none → cap = 0) ∧ (0 < n → ∃ b, l.blks = [b] ∧ a = some ⟨b, i * k, none⟩) ∧ (i = 0 → ∃ n0, l.hdr = .slice a n0 cap)
  | .nilmp, v => v = .map none
  | .mp ks vs, v => ∃ b es clk, v = .map (some b) ∧ b ∉ M ∧ h[b]? = some (.map es clk) ∧ bornOK es clk ∧ rdV ks (es.toList.map (·.key)) ∧ rdV vs (es.toList.map (·.val))
  | .omp id r, v => ∀ l, cur id r = some l → ∃ b, l.blks = [b] ∧ v = .map (some b)
  | .pk id r, v => ∀ l, cur id r = some l → v = l.hdr
  | .nilfn, v => v = .nilFunc
  | .fn f us cs, v => ∃ us' cs' : Array Value, v = .func f us' cs' ∧ rdV us us'.toList ∧ rdV cs cs'.toList
  | .nilifc, v => v = .nilIface
  | .ifc t d, v => ∃ u, v = .iface t u ∧ rd d u
  | .agg cs, v => ∃ us : Array Value, v = .agg us ∧ rdV cs us.toList
  | .tup cs, v => ∃ us : Array Value, v = .tuple us ∧ rdV cs us.toList
/-- The cells from 'o' on read as these. -/
def rdC : List DVal → Array Value → Nat → Prop
  | [], _, _ => True
  | d :: ds, arr, o => (∃ v, arr[o]? = some v ∧ v.oneCell' = true ∧ rd d v) ∧ rdC ds arr (o + 1)
/-- Rows of k cells, one behind the other. -/
def rdR (k : Nat) : List (List DVal) → Array Value → Nat → Prop
  | [], _, _ => True
  | cs :: es, arr, o => cs.length = k ∧ rdC cs arr o ∧ rdR k es arr (o + k)
/-- Values, one for each datum. -/
def rdV : List DVal → List Value → Prop
  | [], vs => vs = []
  | d :: ds, vs => ∃ v r, vs = v :: r ∧ rd d v ∧ rdV ds r
end
end

mutual
/-- One above the greatest version that is named. -/
def mx : DVal → Nat
  | .ref cs => mxL cs
  | .bx _ r _ => r + 1
  | .rx _ r _ _ _ => r + 1
  | .osl _ r => r + 1
  | .vw _ r _ _ _ _ => r + 1
  | .mp ks vs => max (mxL ks) (mxL vs)
  | .omp _ r => r + 1
  | .pk _ r => r + 1
  | .sl _ _ es => mxR es
  | .fn _ us cs => max (mxL us) (mxL cs)
  | .ifc _ d => mx d
  | .sel c d => if c then mx d else 0
  | .agg cs => mxL cs
  | .tup cs => mxL cs
  | _ => 0
def mxL : List DVal → Nat
  | [] => 0
  | d :: ds => max (mx d) (mxL ds)
def mxR : List (List DVal) → Nat
  | [] => 0
  | cs :: es => max (mxL cs) (mxR es)
end

section
variable {cur cur' : Cur} {M M' : List Nat} {h h' : Array Obj} {n : Nat}

/-- what may be read as data -/
def isD : Obj → Bool
  | .cells _ _ _ => true
  | .map _ _ => true
  | _ => false

structure Weak (cur cur' : Cur) (M M' : List Nat) (h h' : Array Obj) (n : Nat) : Prop where
  c : ∀ id r l, r < n → cur' id r = some l → cur id r = some l
  b : ∀ b o, b ∉ M → isD o = true → h[b]? = some o → h'[b]? = some o
  m : ∀ b o, b ∉ M → isD o = true → h[b]? = some o → b ∉ M'

mutual
theorem rd_weak (W : Weak cur cur' M M' h h' n) : ∀ (d : DVal) (v : Value), mx d ≤ n → rd cur M h d v → rd cur' M' h' d v
  | .any, _, _, _ => by simp [rd]
  | .undef, _, _, hr => by simpa [rd] using hr
  | .sel c d, v, hm, hr => by
    simp only [mx] at hm
    simp only [rd] at hr ⊢
    exact ⟨fun h => rd_weak W d v (by rw [if_pos h] at hm; exact hm) (hr.1 h), hr.2⟩
  | .bool _, _, _, hr => by simpa [rd] using hr
  | .int _ _, _, _, hr => by simpa [rd] using hr
  | .str _, _, _, hr => by simpa [rd] using hr
  | .nilp, _, _, hr => by simpa [rd] using hr
  | .ref cs, v, hm, hr => by
    simp only [mx] at hm
    simp only [rd] at hr ⊢
    obtain ⟨b, off, arr, ty, fz, h1, h2, h3, h4⟩ := hr
    exact ⟨b, off, arr, ty, fz, h1, W.m b _ h2 rfl h3, W.b b _ h2 rfl h3, rdC_weak W cs arr off hm h4⟩
  | .bx id r off, v, hm, hr => by
    simp only [mx] at hm
    simp only [rd] at hr ⊢
    exact fun l hl => hr l (W.c id r l (by omega) hl)
  | .rx id r k i j, v, hm, hr => by
    simp only [mx] at hm
    simp only [rd] at hr ⊢
    exact fun l hl => hr l (W.c id r l (by omega) hl)
  | .nilsl, _, _, hr => by simpa [rd] using hr
  | .esl, _, _, hr => by simpa [rd] using hr
  | .sl k bs es, v, hm, hr => by
    simp only [mx] at hm
    simp only [rd] at hr ⊢
    obtain ⟨a, cap, h1, h2, h2', h2'', h3⟩ := hr
    refine ⟨a, cap, h1, h2, h2', h2'', h3.imp id ?_⟩
    rintro ⟨b, off, arr, ty, fz, g1, g2, g3, g4⟩
    exact ⟨b, off, arr, ty, fz, g1, W.m b _ g2 rfl g3, W.b b _ g2 rfl g3, rdR_weak W k es arr off hm g4⟩
  | .osl id r, v, hm, hr => by
    simp only [mx] at hm
    simp only [rd] at hr ⊢
    exact fun l hl => hr l (W.c id r l (by omega) hl)
  | .vw id r k bs i n, v, hm, hr => by
    simp only [mx] at hm
    simp only [rd] at hr ⊢
    exact fun l hl => hr l (W.c id r l (by omega) hl)
  | .nilmp, _, _, hr => by simpa [rd] using hr
  | .mp ks vs, v, hm, hr => by
    simp only [mx] at hm
    simp only [rd] at hr ⊢
    obtain ⟨b, es, clk, h1, h2, h3, h4, h5, h6⟩ := hr
    exact ⟨b, es, clk, h1, W.m b _ h2 rfl h3, W.b b _ h2 rfl h3, h4, rdV_weak W ks _ (by omega) h5, rdV_weak W vs _ (by omega) h6⟩
  | .omp id r, v, hm, hr => by
    simp only [mx] at hm
    simp only [rd] at hr ⊢
    exact fun l hl => hr l (W.c id r l (by omega) hl)
  | .pk id r, v, hm, hr => by
    simp only [mx] at hm
    simp only [rd] at hr ⊢
    exact fun l hl => hr l (W.c id r l (by omega) hl)
  | .nilfn, _, _, hr => by simpa [rd] using hr
  | .fn f us cs, v, hm, hr => by
    simp only [mx] at hm
    simp only [rd] at hr ⊢
    obtain ⟨us', cs', h1, h2, h3⟩ := hr
    exact ⟨us', cs', h1, rdV_weak W us _ (by omega) h2, rdV_weak W cs _ (by omega) h3⟩
  | .nilifc, _, _, hr => by simpa [rd] using hr
  | .ifc t d, v, hm, hr => by
    simp only [mx] at hm
    simp only [rd] at hr ⊢
    obtain ⟨u, h1, h2⟩ := hr
    exact ⟨u, h1, rd_weak W d u hm h2⟩
  | .agg cs, v, hm, hr => by
    simp only [mx] at hm
    simp only [rd] at hr ⊢
    obtain ⟨us, h1, h2⟩ := hr
    exact ⟨us, h1, rdV_weak W cs _ hm h2⟩
  | .tup cs, v, hm, hr => by
    simp only [mx] at hm
    simp only [rd] at hr ⊢
    obtain ⟨us, h1, h2⟩ := hr
    exact ⟨us, h1, rdV_weak W cs _ hm h2⟩
theorem rdC_weak (W : Weak cur cur' M M' h h' n) : ∀ (ds : List DVal) (arr : Array Value) (o : Nat), mxL ds ≤ n → rdC cur M h ds arr o → rdC cur' M' h' ds arr o
  | [], _, _, _, _ => by simp [rdC]
  | d :: ds, arr, o, hm, hr => by
    simp only [mxL] at hm
    simp only [rdC] at hr ⊢
    obtain ⟨⟨v, h1, h1', h2⟩, h3⟩ := hr
    exact ⟨⟨v, h1, h1', rd_weak W d v (by omega) h2⟩, rdC_weak W ds arr _ (by omega) h3⟩
theorem rdR_weak (W : Weak cur cur' M M' h h' n) : ∀ (k : Nat) (es : List (List DVal)) (arr : Array Value) (o : Nat), mxR es ≤ n → rdR cur M h k es arr o → rdR cur' M' h' k es arr o
  | _, [], _, _, _, _ => by simp [rdR]
  | k, cs :: es, arr, o, hm, hr => by
    simp only [mxR] at hm
    simp only [rdR] at hr ⊢
    obtain ⟨h1, h2, h3⟩ := hr
    exact ⟨h1, rdC_weak W cs arr o (by omega) h2, rdR_weak W k es arr _ (by omega) h3⟩
theorem rdV_weak (W : Weak cur cur' M M' h h' n) : ∀ (ds : List DVal) (vs : List Value), mxL ds ≤ n → rdV cur M h ds vs → rdV cur' M' h' ds vs
  | [], _, _, hr => by simpa [rdV] using hr
  | d :: ds, vs, hm, hr => by
    simp only [mxL] at hm
    simp only [rdV] at hr ⊢
    obtain ⟨v, r, h1, h2, h3⟩ := hr
    exact ⟨v, r, h1, rd_weak W d v (by omega) h2, rdV_weak W ds r (by omega) h3⟩
end
end
end Go.Dm
