/- Parts of a proof, laid together: EnI4, EnJ. -/
import Derived.Lib.AppendStr
import Derived.Carry
import Derived.Test.YtedjakmhhlilaaaGreatqGx10
import Derived.Test.YtedjakmhhlilaaaGreatqGx11
set_option linter.unusedSimpArgs false
set_option linter.unusedVariables false
set_option linter.unusedSectionVars false
section
namespace Go.Dm
variable [DMode]
def bytesD (x : ByteArray) : List (List DVal) := x.data.toList.map fun b => [.int .u8 b.toNat]
theorem bytesD_len (x : ByteArray) : (bytesD x).length = x.size := by rw [bytesD, List.length_map]; rfl
@[simp] theorem mx_bytesD (x : ByteArray) : mxR (bytesD x) = 0 := by
 unfold bytesD
 induction x.data.toList with
 | nil => rfl
 | cons b l ih => simp [mxR, mxL, mx, ih]
theorem bytes_rows (x : ByteArray) (cur : Cur) (M : List Nat) (H : Array Obj) : ∃ rows2 : List (List Value), rows2.length = (bytesD x).length ∧ (∀ (i : Nat) (cs : List DVal) (us : List Value), (bytesD x)[i]? = some cs → rows2[i]? = some us → cs.length = 1 ∧ rdV cur M H cs us ∧ ∀ u ∈ us, u.oneCell' = true) ∧
   rows2.flatten.length = (bytesD x).length * 1 ∧ (∀ u ∈ rows2.flatten, u.oneCell' = true) ∧ rows2.flatten = Lib.strCells x := by
 have hfl : (x.data.toList.map fun b => [Value.int .u8 b.toNat]).flatten = Lib.strCells x := by
  unfold Lib.strCells
  induction x.data.toList with
  | nil => rfl
  | cons b l ih => simp [ih]
 refine ⟨x.data.toList.map fun b => [.int .u8 b.toNat], by simp [bytesD], ?_, by rw [hfl, Lib.strCells_length, bytesD_len, Nat.mul_one], by rw [hfl]; exact Lib.strCells_oneCell x, hfl⟩
 intro i cs us hc hu
 simp only [bytesD, List.getElem?_map, Option.map_eq_some_iff] at hc hu
 obtain ⟨b, hb, rfl⟩ := hc
 obtain ⟨b', hb', rfl⟩ := hu
 rw [hb] at hb'
 simp only [Option.some.injEq] at hb'
 subst hb'
 refine ⟨rfl, ?_, by simp [Value.oneCell']⟩
 simp only [rdV, rd]
 exact ⟨_, _, rfl, ⟨rfl, by have := UInt8.toNat_lt b; simp only [inR]; omega⟩, rfl⟩
section
variable {P : Program} {B : Base} {s : DS} {a : Act} {w : World} {loc : Nat → Loc}
theorem run_append_zero_str {t t2 ty e : TypeId} {i : TypeInfo} {x : ByteArray} (hu : P.underlying t = some (.slice e)) (hu2 : P.underlying t2 = some .string) (hi : P.info? e = some i) (hx : x.size = 0) {y : Option Addr} {m cap : Nat} (hm' : m ≤ cap) :
  (Builtin.append_ #[t, t2] ty #[.slice y m cap, .string x]).run P w = .ok (.slice y m cap) w := by
 have hf := Lib.run_firstCells_string (P := P) w i.size x
 have hn : Lib.strCells x = [] := List.eq_nil_of_length_eq_zero (by rw [Lib.strCells_length]; exact hx)
 rw [hx, hn] at hf
 cases y <;> simp [Builtin.append_, run_underlying hu, run_underlying hu2, sizeOf, typeInfo, hi, Builtin.lenOf, hx, hf, hm', storeCells]
theorem Rel.appendStr {id n : Nat} {t t2 ty e : TypeId} {k bs : Nat} {es : List (List DVal)} {x : ByteArray} {dv : Value} {dst : Option Nat} (R : Rel B s a w loc) (hlim : lim B s ≤ n) (hdst : ∀ i, dst = some i → i < B.nt)
  (ht : tElem P t = some (k, bs)) (hte : tElemId P t = some e) (hz : zeroOK P t = true) (hk : 0 < k) (hrow : RowAt s loc w B.M0 id e k bs es dv) (hmx1 : mxR es ≤ n)
  (ht2 : P.underlying t2 = some .string) (hk1 : k = 1) (hb : (es.length + x.size) * bs ≤ 150000000000000) (hbs : bs ≤ 65536) (hl : es.length + x.size ≤ maxLen) :
  ∃ v' w' L, (Builtin.append_ #[t, t2] ty #[dv, .string x]).run P w = .ok v' w' ∧ Rel B ⟨putS s.slots dst (.osl id n), upE s.own id n (.row e k bs (es ++ bytesD x))⟩ (a.put dst v') w' (upL loc id L) := by
 obtain ⟨e', i, hu, hi, hsz, hby, _⟩ := tElem_some ht
 have hee : e' = e := by unfold tElemId at hte; rw [hu] at hte; simpa using hte
 subst hee
 obtain ⟨z, hzr, hzs⟩ : ∃ z, i.zero = some z ∧ z.cells.size = k := by
  unfold zeroOK at hz
  rw [hu] at hz
  simp only [hi] at hz
  cases hq : i.zero with
  | none => simp [hq] at hz
  | some z => simp only [hq, beq_iff_eq] at hz; exact ⟨z, rfl, by rw [hz, hsz]⟩
 obtain ⟨es2, hes2⟩ : ∃ es2, es2 = bytesD x := ⟨_, rfl⟩
 rw [← hes2]
 have hx2 : es2.length = x.size := by rw [hes2, bytesD_len]
 obtain ⟨rows2, q1, q2, q3, q4, hfl⟩ : ∃ rows2 : List (List Value), rows2.length = es2.length ∧ (∀ (i : Nat) (cs : List DVal) (us : List Value), es2[i]? = some cs → rows2[i]? = some us → cs.length = k ∧ rdV (cu s loc) (hm s loc B.M0) w.heap cs us ∧ ∀ u ∈ us, u.oneCell' = true) ∧
   rows2.flatten.length = es2.length * k ∧ (∀ u ∈ rows2.flatten, u.oneCell' = true) ∧ rows2.flatten = Lib.strCells x := by
  rw [hes2, hk1]
  exact bytes_rows x _ _ _
 have hmx2 : mxR es2 ≤ n := by rw [hes2, mx_bytesD]; exact Nat.zero_le _
 rw [← hx2] at hb hl
 have hlenb : (es ++ es2).length * bs ≤ 150000000000000 := by simpa using hb
 have mx12 : mxR (es ++ es2) ≤ n := by rw [mxR_append]; omega
 -- what the slot reads at the end
 have rdEnd : ∀ (L : Loc) (h : Array Obj) (obj : DObj), rd (curOf (upE s.own id n obj) (upL loc id L)) (hotOf (upE s.own id n obj) (upL loc id L) ++ B.M0) h (.osl id n) L.hdr := by
  intro L h obj
  simp only [rd]
  intro l hl'
  rw [curOf_up] at hl'
  simp only [Option.some.injEq] at hl'
  rw [hl']
 ·by_cases hm0 : es2.length = 0
  ·have he2 : es2 = [] := List.eq_nil_of_length_eq_zero hm0
   have hx0 : x.size = 0 := by omega
   rw [he2, List.append_nil]
   rw [he2, List.append_nil] at hlenb
   rcases hrow with ⟨rfl, rfl⟩ | ⟨e0, hmem, hid, b, arr, cap, h1', rfl, h3, h4, h5, h6, h7⟩
   ·refine ⟨_, w, ⟨[], .slice none 0 0⟩, run_append_zero_str hu ht2 hi hx0 (Nat.le_refl _), ?_⟩
    refine R.up (L := ⟨[], .slice none 0 0⟩) hlim hdst (Upd.refl _ _) (fun b hb _ => rfl) (fun b hb => by simp at hb) (.inl (Nat.le_refl _)) ⟨by simp, .inl ⟨rfl, rfl, rfl⟩⟩ (rdEnd ⟨[], .slice none 0 0⟩ _ _)
   ·have h1 : b ∈ (loc id).blks := by rw [h1']; simp
    refine ⟨_, w, ⟨[b], .slice (some ⟨b, 0, none⟩) es.length cap⟩, run_append_zero_str hu ht2 hi hx0 h4, ?_⟩
    have hL : ∀ b0, b0 ∈ (⟨[b], .slice (some ⟨b, 0, none⟩) es.length cap⟩ : Loc).blks → b0 < w.heap.size ∧ ((∃ e ∈ s.own, e.id = id ∧ b0 ∈ (loc id).blks) ∨ w.heap.size ≤ b0) := by
     intro b0 hb0
     simp only [List.mem_singleton] at hb0
     subst hb0
     exact ⟨(Array.getElem?_eq_some_iff.1 h3).1, .inl ⟨e0, hmem, hid, h1⟩⟩
    have W := R.weakUp (obj := .row e' k bs es) (r := n) hlim (Upd.refl _ _) hL (.inl (Nat.le_refl _))
    exact R.up (L := ⟨[b], .slice (some ⟨b, 0, none⟩) es.length cap⟩) hlim hdst (Upd.refl _ _) (fun b hb _ => rfl) hL (.inl (Nat.le_refl _)) ⟨hlenb, .inr ⟨b, arr, cap, rfl, rfl, h3, h4, h5, h6, rdR_weak W k es arr 0 hmx1 h7⟩⟩ (rdEnd ⟨[b], .slice (some ⟨b, 0, none⟩) es.length cap⟩ _ _)
  ·
   subst hsz
   subst hby
   have hl' : es.length + es2.length ≤ 9223372036854775807 := by unfold maxLen at hl; omega
   -- a new row, whatever it held before
   have fresh : ∀ (rows : List (List Value)) (cap : Nat), es.length ≤ cap ∨ True → rows.length = es.length → rows.flatten.length = es.length * i.size →
     (∀ (j : Nat) (cs : List DVal) (us : List Value), es[j]? = some cs → rows[j]? = some us → cs.length = i.size ∧ rdV (cu s loc) (hm s loc B.M0) w.heap cs us ∧ ∀ u ∈ us, u.oneCell' = true) →
     Rel B ⟨putS s.slots dst (.osl id n), upE s.own id n (.row e' i.size i.bytes (es ++ es2))⟩ (a.put dst (.slice (some ⟨w.heap.size, 0, none⟩) (es.length + es2.length) (grownCap w (es.length + es2.length) cap e')))
      (w.drew.alloc (.cells (rows.flatten.toArray ++ rows2.flatten.toArray ++ Builtin.zeroCells z.cells (grownCap w (es.length + es2.length) cap e' - (es.length + es2.length))) e')) (upL loc id ⟨[w.heap.size], .slice (some ⟨w.heap.size, 0, none⟩) (es.length + es2.length) (grownCap w (es.length + es2.length) cap e')⟩) := by
    intro rows cap _ r1 r2 r3
    have hw : Upd (hotOf s.own loc) w (w.drew.alloc (.cells (rows.flatten.toArray ++ rows2.flatten.toArray ++ Builtin.zeroCells z.cells (grownCap w (es.length + es2.length) cap e' - (es.length + es2.length))) e')) :=
     (Upd.drew _ w).trans (Upd.alloc _ w.drew _) (fun x hx => .inl hx)
    have hL : ∀ b0, b0 ∈ (⟨[w.heap.size], .slice (some ⟨w.heap.size, 0, none⟩) (es.length + es2.length) (grownCap w (es.length + es2.length) cap e')⟩ : Loc).blks → b0 < (w.drew.alloc (.cells (rows.flatten.toArray ++ rows2.flatten.toArray ++ Builtin.zeroCells z.cells (grownCap w (es.length + es2.length) cap e' - (es.length + es2.length))) e')).heap.size ∧ ((∃ e ∈ s.own, e.id = id ∧ b0 ∈ (loc id).blks) ∨ w.heap.size ≤ b0) := by
     intro b0 hb0
     simp only [List.mem_singleton] at hb0
     subst hb0
     exact ⟨by simp, .inr (Nat.le_refl _)⟩
    have W := R.weakUp (obj := .row e' i.size i.bytes (es ++ es2)) (r := n) hlim hw hL (.inl (Nat.le_refl _))
    have hge := grownCap_ge w (es.length + es2.length) cap e'
    have hcm := grownCap_le_maxLen w (es.length + es2.length) cap e' hl
    refine R.up hlim hdst hw (fun b hb _ => by simp only [World.alloc, Array.getElem?_push, World.drew]; rw [if_neg (by omega)]) hL (.inl (Nat.le_refl _)) ⟨hlenb, .inr ⟨w.heap.size, _, _, rfl, by simp, heap_alloc_new w.drew _, by simpa using hge, hcm, ?_, ?_⟩⟩ (rdEnd ⟨[w.heap.size], .slice (some ⟨w.heap.size, 0, none⟩) (es.length + es2.length) (grownCap w (es.length + es2.length) cap e')⟩ _ _)
    ·simp only [Array.size_append, List.size_toArray, size_zeroCells, hzs, r2, q3, ← Nat.add_mul]
     congr 1
     omega
    ·have := joinRows (k := i.size) r1 q1 (weak_rows W hmx1 r3) (weak_rows W hmx2 q2) (Builtin.zeroCells z.cells (grownCap w (es.length + es2.length) cap e' - (es.length + es2.length))).toList
     have e1 : (rows.flatten ++ rows2.flatten ++ (Builtin.zeroCells z.cells (grownCap w (es.length + es2.length) cap e' - (es.length + es2.length))).toList).toArray = rows.flatten.toArray ++ rows2.flatten.toArray ++ Builtin.zeroCells z.cells (grownCap w (es.length + es2.length) cap e' - (es.length + es2.length)) := by
      apply Array.ext'; simp
     rw [e1] at this
     exact this
   rcases hrow with ⟨rfl, rfl⟩ | ⟨e0, hmem, hid, b, arr, cap, h1', rfl, h3, h4, h5, h6, h7⟩
   ·have hr := run_append_nil_string (P := P) w t t2 ty e' i z hu ht2 hi hzr x (by omega) (by omega) (by rw [← hx2]; simp only [List.length_nil, Nat.zero_add] at hb; omega)
    have e1 : (x.data.map fun b => Value.int .u8 b.toNat) = (Lib.strCells x).toArray := by
     apply Array.ext'
     simp [Lib.strCells]
    rw [e1, ← hfl, ← hx2] at hr
    have hf := fresh [] 0 (.inr trivial) rfl (by simp) (by simp)
    simp only [List.length_nil, Nat.zero_add, List.nil_append, List.flatten_nil, Array.empty_append] at hf hr ⊢
    exact ⟨_, _, _, hr, hf⟩
   ·have h1 : b ∈ (loc id).blks := by rw [h1']; simp
    obtain ⟨rows, r1, r2, r3, r4⟩ := rdR_vals i.size es arr 0 h7
    have hfits : es.length * i.size ≤ arr.size := by rw [← h6]; exact Nat.mul_le_mul_right _ h4
    by_cases hroom : es.length + es2.length ≤ cap
    ·have hfit : es.length * i.size + rows2.flatten.length ≤ arr.size := by rw [q3, ← h6, ← Nat.add_mul]; exact Nat.mul_le_mul_right _ hroom
     have hr := Lib.run_append_room_string (P := P) w t t2 ty e' i hu ht2 hi hk1 b es.length cap arr h3 x (by omega) (by rw [q3, hk1] at hfit; omega)
     have e2 : arr.toList.take es.length ++ Lib.strCells x ++ arr.toList.drop (es.length + x.size) = arr.toList.take (es.length * i.size) ++ rows2.flatten ++ arr.toList.drop (es.length * i.size + rows2.flatten.length) := by
      rw [q3, hfl, hk1, Nat.mul_one, Nat.mul_one, hx2]
     rw [e2, ← hx2] at hr
     refine ⟨_, _, ⟨[b], .slice (some ⟨b, 0, none⟩) (es.length + es2.length) cap⟩, hr, ?_⟩
     have hw : Upd (hotOf s.own loc) w (w.setRow b (arr.toList.take (es.length * i.size) ++ rows2.flatten ++ arr.toList.drop (es.length * i.size + rows2.flatten.length)).toArray) := Upd.setRow hmem (by rw [hid]; exact h1) w _
     have hL : ∀ b0, b0 ∈ (⟨[b], .slice (some ⟨b, 0, none⟩) (es.length + es2.length) cap⟩ : Loc).blks → b0 < (w.setRow b (arr.toList.take (es.length * i.size) ++ rows2.flatten ++ arr.toList.drop (es.length * i.size + rows2.flatten.length)).toArray).heap.size ∧ ((∃ e ∈ s.own, e.id = id ∧ b0 ∈ (loc id).blks) ∨ w.heap.size ≤ b0) := by
      intro b0 hb0
      simp only [List.mem_singleton] at hb0
      subst hb0
      refine ⟨?_, .inl ⟨e0, hmem, hid, h1⟩⟩
      have := (Array.getElem?_eq_some_iff.1 h3).1
      simpa using this
     have W := R.weakUp (obj := .row e' i.size i.bytes (es ++ es2)) (r := n) hlim hw hL (.inl (Nat.le_refl _))
     refine R.up hlim hdst hw ?_ hL (.inl (Nat.le_refl _)) ⟨hlenb, .inr ⟨b, _, cap, rfl, by simp, setRow_heap w b arr _ e' (0, 0) h3, by simpa using hroom, h5, ?_, ?_⟩⟩ (rdEnd ⟨[b], .slice (some ⟨b, 0, none⟩) (es.length + es2.length) cap⟩ _ _)
     ·intro b0 hb0 hne
      refine setRow_other w b b0 _ (fun h => hne e0 hmem hid ?_)
      rw [h]; exact h1
     ·simp only [List.size_toArray, List.length_append, List.length_take, List.length_drop, Array.length_toList]; omega
     ·have ht' := take_flat r2 r4 hfits
      have hj := joinRows r1 q1 (weak_rows W hmx1 r3) (weak_rows W hmx2 q2) (arr.toList.drop (es.length * i.size + rows2.flatten.length))
      rw [← ht'] at hj
      exact hj
    ·have hr := Lib.run_append_grow_string (P := P) w t t2 ty e' i z hu ht2 hi hzr ⟨b, 0, none⟩ es.length cap rows.flatten r2 (fun j v hj => by rw [add_lit]; simp only [World.cell?, h3]; exact (r4 j v hj).1) x (by omega) (by omega) (by rw [← hx2]; exact fitsL (by omega) hb hbs)
     rw [← hfl, ← hx2] at hr
     exact ⟨_, _, _, hr, fresh rows cap (.inl h4) r1 r2 r3⟩
end
def destOf (own : List Ent) (et k bs : Nat) : DVal → Option (Option Nat × List (List DVal))
 | .nilsl => some (none, [])
 | .osl id r => match findE own id with
  | some e => if e.r = r then (match e.obj with | .row et' k' bs' es => if et' = et ∧ k' = k ∧ bs' = bs then some (some id, es) else none | _ => none) else none
  | none => none
 | .vw id r k0 b0 i m => if i = 0 ∧ b0 ≠ 0 then (match findE own id with
  | some e => if e.r = r then (match e.obj with | .row et' k' bs' es => if (et' = et ∧ k' = k ∧ bs' = bs) ∧ k0 = k ∧ m ≤ es.length then some (some id, es.take m) else none | _ => none) else none
  | none => none) else none
 | _ => none
theorem destOf_spec {own : List Ent} {et k bs : Nat} {d : DVal} {id : Option Nat} {es : List (List DVal)} (h : destOf own et k bs d = some (id, es)) :
  (d = .nilsl ∧ id = none ∧ es = []) ∨ ∃ i e0 es0 m, id = some i ∧ findE own i = some e0 ∧ e0.obj = .row et k bs es0 ∧ es = es0.take m ∧ (d = .osl i e0.r ∧ es = es0 ∨ ∃ b0, d = .vw i e0.r k b0 0 m ∧ m ≤ es0.length ∧ b0 ≠ 0) := by
 unfold destOf at h
 split at h
 ·simp only [Option.some.injEq, Prod.mk.injEq] at h
  exact .inl ⟨rfl, h.1.symm, h.2.symm⟩
 ·split at h
  ·rename_i e0 he0
   split at h
   ·rename_i her
    split at h
    ·rename_i hob
     split at h
     ·rename_i heq
      obtain ⟨rfl, rfl, rfl⟩ := heq
      simp only [Option.some.injEq, Prod.mk.injEq] at h
      obtain ⟨rfl, rfl⟩ := h
      exact .inr ⟨_, e0, _, _, rfl, he0, hob, (List.take_length).symm, .inl ⟨by rw [her], rfl⟩⟩
     ·simp at h
    ·simp at h
   ·simp at h
  ·simp at h
 ·split at h
  ·rename_i hi
   obtain ⟨hi, hb0⟩ := hi
   subst hi
   split at h
   ·rename_i e0 he0
    split at h
    ·rename_i her
     split at h
     ·rename_i hob
      split at h
      ·rename_i heq
       obtain ⟨⟨rfl, rfl, rfl⟩, rfl, hm⟩ := heq
       simp only [Option.some.injEq, Prod.mk.injEq] at h
       obtain ⟨rfl, rfl⟩ := h
       exact .inr ⟨_, e0, _, _, rfl, he0, hob, rfl, .inr ⟨_, by rw [her], hm, hb0⟩⟩
      ·simp at h
     ·simp at h
    ·simp at h
   ·simp at h
  ·simp at h
 ·simp at h
structure ERes where
 pre : Prop
 d : DVal
 own : List Ent
section
variable (P : Program) (nt : Nat) (ow : List Nat)
def isEff (o : Oper) : Bool := match o.op with
 | .box _ _ => match o.dst with | some i => ow.contains i | none => false
 | .buildSlice _ _ _ => match o.dst with | some i => ow.contains i | none => false
 | .alloc _ => true
 | .store _ _ _ => true
 | .makeMap _ _ => true
 | .mapUpdate _ _ _ _ => true
 | .makeSlice _ _ _ => true
 | .call c => match c.callee with | .builtin .append => (match o.dst with | some i => !ow.contains (i + 1000000) | none => true) | .builtin .clear => true | .builtin .copy => true | .builtin .delete => true | .value _ => (match o.dst with | some i => ow.contains i | none => false) | _ => false
 | _ => false
def strOf : DVal → Option ByteArray
 | .str x => some x
 | _ => none
def eAppend (own : List Ent) (dst : Option Nat) (r : Nat) : List DVal → List TypeId → Option ERes
 | [a, b], [t, t'] => match dst, tElem P t, tElemId P t with
  | some i, some (k, bs), some et => match strOf b with
   | some x => match destOf own et k bs a with
    | some (id, es) => some ⟨tStr P t' = true ∧ zeroOK P t = true ∧ k = 1 ∧ bs ≤ 65536 ∧ (es.length + x.size) * bs ≤ 150000000000000 ∧ es.length + x.size ≤ 9223372036854775807,
     .osl (id.getD i) r, upE own (id.getD i) r (.row et k bs (es ++ bytesD x))⟩
    | none => none
   | none => match destOf own et k bs a, rowsN own b with
    | some (id, es), some (k2, es2) => some ⟨t' = t ∧ zeroOK P t = true ∧ 0 < k ∧ (k2 = k ∨ es2 = []) ∧ bs ≤ 65536 ∧ (es.length + es2.length) * bs ≤ 150000000000000 ∧ es.length + es2.length ≤ 9223372036854775807,
     .osl (id.getD i) r, upE own (id.getD i) r (.row et k bs (es ++ es2))⟩
    | _, _ => none
  | _, _, _ => none
 | _, _ => none
def eStoreRow (own : List Ent) (dst : Option Nat) (t : TypeId) (d : DVal) (id r' k i j : Nat) : Option ERes := match findE own id with
 | some e => match e.obj with
  | .row et k' bs es => match es[i]? with
   | some c0 => some ⟨e.r = r' ∧ k' = k ∧ dst = none ∧ tCells P t = some (cellsD d).length ∧ plainD own d = true ∧ j + (cellsD d).length ≤ k, .any, upE own id r' (.row et k' bs (es.set i (splice c0 j (cellsD d))))⟩
   | none => none
  | _ => none
 | none => none
def eMake (own : List Ent) (dst : Option Nat) (r : Nat) (t : TypeId) (l c : DVal) : Option ERes := match dst, tElem P t, tElemId P t, tZeroE P t, l, c with
 | some i, some (k, bs), some et, some zs, .int _ n, .int _ m => some ⟨zs.all (oneO []) = true ∧ zs.length = k ∧ 0 ≤ n ∧ n ≤ m ∧ m * bs ≤ 150000000000000 ∧ m ≤ 9223372036854775807, .osl i r, upE own i r (.row et k bs (List.replicate n.toNat zs))⟩
 | _, _, _, _, _, _ => none
def eClear (own : List Ent) : List DVal → List TypeId → Option ERes
 | [d], [t] => match tElem P t, tZeroE P t with
  | some (k, _), some zs => match d with
   | .osl id r => match findE own id with
    | some e => match e.obj with
     | .row et k' bs es => some ⟨e.r = r ∧ k' = k ∧ zs.all (oneO []) = true ∧ zs.length = k ∧ 0 < k, .tup [], upE own id r (.row et k' bs (clearD es 0 es.length zs))⟩
     | _ => none
    | none => none
   | .vw id r k0 _ i m => match findE own id with
    | some e => match e.obj with
     | .row et k' bs es => some ⟨e.r = r ∧ k' = k ∧ k0 = k ∧ zs.all (oneO []) = true ∧ zs.length = k ∧ 0 < k ∧ i + m ≤ es.length, .tup [], upE own id r (.row et k' bs (clearD es i m zs))⟩
     | _ => none
    | none => none
   | _ => none
  | _, _ => none
 | _, _ => none
def eDelete (own : List Ent) : List DVal → List TypeId → Option ERes
 | [m, k], [t, _] => match m, tMap P t with
  | .omp id r', some (kt, _) => match findE own id with
   | some e => match e.obj with
    | .map ks vs => some ⟨False, .tup [], upE own id r' (.map (delK ks k) (delV ks vs k))⟩
    | _ => none
   | none => none
  | _, _ => none
 | _, _ => none
def partD (own : List Ent) : DVal → Option (Nat × Nat × Nat × Nat × TypeId × Nat × Nat × List (List DVal))
 | .osl id r => match findE own id with
  | some e => if e.r = r then (match e.obj with | .row et k bs es => some (id, r, 0, es.length, et, k, bs, es) | _ => none) else none
  | none => none
 | .vw id r k0 _ i m => match findE own id with
  | some e => if e.r = r then (match e.obj with | .row et k bs es => if k0 = k then some (id, r, i, m, et, k, bs, es) else none | _ => none) else none
  | none => none
 | _ => none
def eCopy (own : List Ent) : List DVal → List TypeId → Option ERes
 | [d, s], [t, t'] => match tElem P t, partD own d, rowsN own s with
  | some (k, _), some (id, r', i, m, et, k', bs, es), some (k2, es2) => some ⟨t' = t ∧ k' = k ∧ 0 < k ∧ i + m ≤ es.length ∧ (k2 = k ∨ es2 = []), .int .i64 (min es2.length m : Nat), upE own id r' (.row et k' bs (copyD es i m es2))⟩
  | _, _, _ => none
 | _, _ => none
def eRes (o : Oper) (ed : Operand → DVal) (own : List Ent) (r : Nat) : Option ERes :=
 match o.op with
 | .box _ x => match o.dst with
  | some i => some ⟨plainD own (ed x) = true, .bx i r 0, upE own i r (.box (cellsD (ed x)))⟩
  | none => none
 | .buildSlice t len parts => match o.dst, tElem P t, tElemId P t with
  | some i, some (k, bs), some et => some ⟨nPre P own (ed) (.buildSlice t len parts), .osl i r, upE own i r (.row et k bs (parts.toList.map fun p => cellsD (ed p.2)))⟩
  | _, _, _ => none
 | .alloc t => match o.dst, tZero P t with
  | some i, some z => some ⟨z.all (oneO []) = true, .bx i r 0, upE own i r (.box z)⟩
  | _, _ => none
 | .store t a x => match ed a with
  | .bx id r' off => match findE own id with
   | some e => match e.obj with
    | .box cs => some ⟨e.r = r' ∧ o.dst = none ∧ tCells P t = some (cellsD (ed x)).length ∧ plainD own (ed x) = true ∧ off + (cellsD (ed x)).length ≤ cs.length, .any, upE own id r' (.box (splice cs off (cellsD (ed x))))⟩
    | _ => none
   | none => none
  | .rx id r' k i j => eStoreRow P own o.dst t (ed x) id r' k i j
  | _ => none
 | .makeSlice t l c => eMake P own o.dst r t (ed l) (ed c)
 | .makeMap t rv => match rv, o.dst, tMap P t with
  | none, some i, some _ => some ⟨True, .omp i r, upE own i r (.map [] [])⟩
  | _, _, _ => none
 | .mapUpdate t m k x => match ed m, tMap P t with
  | .omp id r', some (kt, _) => match findE own id with
   | some e => match e.obj with
    | .map ks vs => some ⟨e.r = r' ∧ o.dst = none ∧ keyOK P kt (ed k) = true ∧ ks.all (keyOK P kt) = true, .any, upE own id r' (.map (updK ks (ed k)) (updV ks vs (ed k) (ed x)))⟩
    | _ => none
   | none => none
  | _, _ => none
 | .call c => match c.callee with
  | .builtin .append => eAppend P own o.dst r (c.args.toList.map (ed)) c.argTypes.toList
  | .builtin .clear => eClear P own (c.args.toList.map (ed)) c.argTypes.toList
  | .builtin .copy => eCopy P own (c.args.toList.map (ed)) c.argTypes.toList
  | .builtin .delete => eDelete P own (c.args.toList.map (ed)) c.argTypes.toList
  | _ => none
 | _ => none
end
section
variable {P : Program} {B : Base} {s : DS} {a : Act} {w : World} {loc : Nat → Loc} {ow : List Nat}
theorem oneO_nil {own : List Ent} {d : DVal} (h : oneO [] d = true) : oneO own d = true := by
 cases d <;> simp_all [oneO, isCur, findE, rowsOf]
theorem wp_val {ro : Option Nat} {o : Oper} {v : Value} {w' : World} {next : Act → World → Prop} {Q : Exit → Act → World → Prop} (hd : ∀ c, o.op ≠ .defer c) (h : (execOp a.eval o).run P w = .ok (.value v) w') (hn : next (a.put o.dst v) w') : o.wpIn (wd ro) 0 P a w next Q := by
 refine ⟨fun _ _ => trivial, ?_⟩
 rw [Oper.semAt_eq _ _ _ hd, h, Oper.uponIn_value]
 exact hn
theorem wp_unit {ro : Option Nat} {o : Oper} {w' : World} {next : Act → World → Prop} {Q : Exit → Act → World → Prop} (hd : ∀ c, o.op ≠ .defer c) (h : (execOp a.eval o).run P w = .ok .skip w') (hn : next (a.put o.dst Go.undef) w') : o.wpIn (wd ro) 0 P a w next Q := by
 refine ⟨fun _ _ => trivial, ?_⟩
 rw [Oper.semAt_eq _ _ _ hd, h, Oper.uponIn_skip]
 exact hn
theorem rowAt_vw (S : St s.own loc B.M0 w.heap) {id r et k bs b0 m : Nat} {es : List (List DVal)} {e0 : Ent} {dv : Value} (he : findE s.own id = some e0) (her : e0.r = r) (hob : e0.obj = .row et k bs es) (hm1 : m ≤ es.length) (hb0 : b0 ≠ 0) (hd : Rds s loc B.M0 w (.vw id r k b0 0 m) dv) : RowAt s loc w B.M0 id et k bs (es.take m) dv := by
 obtain ⟨hmem, hid⟩ := findE_ent he
 have hk := S.ok e0 hmem
 rw [hob] at hk
 obtain ⟨_, hk⟩ := hk
 simp only [Rds, rd] at hd
 obtain ⟨a, cap, rfl, g1, g2, g3, g4, g5⟩ := hd (loc id) (by show curOf _ _ _ _ = _; unfold curOf; rw [he]; simp [her])
 obtain ⟨n0, g5⟩ := (g5 trivial).resolve_left hb0
 rw [hid] at hk
 rcases hk with ⟨h1, h2, h3⟩ | ⟨b, arr, cap2, h1, h2, h3, h4, h5, h6, h7⟩
 ·subst h1
  rw [h3] at g5
  simp only [Value.slice.injEq] at g5
  obtain ⟨rfl, _, rfl⟩ := g5
  simp only [List.length_nil, Nat.le_zero] at hm1
  subst hm1
  exact .inl ⟨by simp, rfl⟩
 ·rw [h2] at g5
  simp only [Value.slice.injEq] at g5
  obtain ⟨rfl, _, rfl⟩ := g5
  have hlen : (es.take m).length = m := by simp; omega
  refine .inr ⟨e0, hmem, hid, b, arr, cap2, h1, by rw [hlen], h3, by rw [hlen]; exact g1, h5, h6, rdR_mk _ _ _ _ fun q cs hq => ?_⟩
  rw [List.getElem?_take] at hq
  split at hq
  ·exact rdR_at k es arr 0 q cs h7 hq
  ·simp at hq
theorem destOf_ok {id : Option Nat} {i0 r et k bs : Nat} {es : List (List DVal)} {d : DVal} {v : Value} (R : Rel B s a w loc) (hlim : mxE s.own ≤ r) (hdest : destOf s.own et k bs d = some (id, es)) (ra : Rds s loc B.M0 w d v) :
  RowAt s loc w B.M0 (id.getD i0) et k bs es v ∧ mxR es ≤ r := by
 rcases destOf_spec hdest with ⟨rfl, rfl, rfl⟩ | ⟨i, e0, es0, m, rfl, he0, hob, hes, hd⟩
 ·simp only [Rds, rd] at ra
  exact ⟨.inl ⟨rfl, ra⟩, by simp [mxR]⟩
 ·have hmx : mxR es0 ≤ r := by
   have := (mem_mxE (findE_ent he0).1).2
   rw [hob] at this
   simp only [mxO] at this
   omega
  rcases hd with ⟨rfl, rfl⟩ | ⟨b0, rfl, hm1, hb0⟩
  ·exact ⟨rowAt_osl R.st he0 rfl hob ra, hmx⟩
  ·subst hes
   exact ⟨rowAt_vw R.st he0 rfl hob hm1 hb0 ra, Nat.le_trans (mxR_take m es0) hmx⟩
theorem destOf_mx {own : List Ent} {id : Option Nat} {r et k bs : Nat} {es : List (List DVal)} {d : DVal} (hdest : destOf own et k bs d = some (id, es)) (hlim : mxE own ≤ r) : mxR es ≤ r := by
 rcases destOf_spec hdest with ⟨rfl, rfl, rfl⟩ | ⟨i, e0, es0, m, rfl, he0, hob, rfl, _⟩
 ·simp [mxR]
 ·have := (mem_mxE (findE_ent he0).1).2
  rw [hob] at this
  simp only [mxO] at this
  exact Nat.le_trans (mxR_take m es0) (by omega)
theorem partD_ok {own : List Ent} {d : DVal} {id r i m : Nat} {et : TypeId} {k bs : Nat} {es : List (List DVal)} (h : partD own d = some (id, r, i, m, et, k, bs, es)) :
  ∃ e bs0, findE own id = some e ∧ e.r = r ∧ e.obj = .row et k bs es ∧ (d = .osl id r ∧ i = 0 ∧ m = es.length ∨ d = .vw id r k bs0 i m) := by
 unfold partD at h
 split at h
 ·split at h
  ·rename_i e he
   split at h
   ·rename_i her
    split at h
    ·rename_i hob
     simp only [Option.some.injEq, Prod.mk.injEq] at h
     obtain ⟨rfl, rfl, rfl, rfl, rfl, rfl, rfl, rfl⟩ := h
     exact ⟨e, 0, he, her, hob, .inl ⟨rfl, rfl, rfl⟩⟩
    ·simp at h
   ·simp at h
  ·simp at h
 ·rename_i bs0 _ _
  split at h
  ·rename_i e he
   split at h
   ·rename_i her
    split at h
    ·rename_i hob
     split at h
     ·rename_i hk
      simp only [Option.some.injEq, Prod.mk.injEq] at h
      obtain ⟨rfl, rfl, rfl, rfl, rfl, rfl, rfl, rfl⟩ := h
      exact ⟨e, bs0, he, her, hob, .inr (by rw [hk])⟩
     ·simp at h
    ·simp at h
   ·simp at h
  ·simp at h
 ·simp at h
theorem rowsN_mx {own : List Ent} {s : DVal} {k2 : Nat} {es2 : List (List DVal)} {n : Nat} (h : rowsN own s = some (k2, es2)) (h1 : mxE own ≤ n) (h2 : mx s ≤ n) : mxR es2 ≤ n := by
 unfold rowsN at h
 split at h
 ·simp only [Option.some.injEq, Prod.mk.injEq] at h
  obtain ⟨_, rfl⟩ := h
  simp [mxR]
 ·simp only [Option.some.injEq, Prod.mk.injEq] at h
  obtain ⟨_, rfl⟩ := h
  simp [mxR]
 ·rw [Option.map_eq_some_iff] at h
  obtain ⟨⟨k', b', es'⟩, h3, h4⟩ := h
  simp only [Prod.mk.injEq] at h4
  obtain ⟨_, rfl⟩ := h4
  have := rowsOf_mx h3
  omega
def yH (l : Nat) : Abs where
 J := fun _ bl hd _ => bl = [] ∧ hd = .func (.yield l) #[] #[]
 weak := fun _ _ _ _ _ _ _ _ _ h => h
 one := by rintro _ _ _ _ ⟨_, rfl⟩; exact ⟨rfl, rfl⟩
 nd := by rintro _ _ _ _ ⟨rfl, _⟩ b hb; cases hb
def YAt (P : Program) (l : Nat) (A : Abs) (args : List DVal) (b : Bool) (A' : Abs) : Prop :=
 ∀ (M bl : List Nat) (hd : Value) (w : World) (vs : Array Value), bl.Nodup → (∀ q ∈ bl, q ∈ M) → (∀ q ∈ M, q < w.heap.size) → A.J M bl hd w.heap → rdV (fun _ _ => none) M w.heap args vs.toList →
  FCalls P (.yield l) vs w fun v w' => v = .bool b ∧ ∃ bl', Upd bl w w' ∧ bl'.Nodup ∧ (∀ q ∈ bl', q < w'.heap.size ∧ (q ∈ bl ∨ w.heap.size ≤ q)) ∧
   ∀ M', (∀ q ∈ M', q ∈ bl' ∨ (q ∈ M ∧ q ∉ bl)) → A'.J M' bl' hd w'.heap
def pkOf (ed : Operand → DVal) (c : Call) : Option (Nat × Nat × List DVal) := match c.callee with
 | .value f => match ed f with | .pk id r => some (id, r, c.args.toList.map ed) | _ => none
 | _ => none
def effE (P : Program) (o : Oper) (ed : Operand → DVal) (own : List Ent) (K : ContE) : Prop := ∀ r, match eRes P o ed own r with | some x => x.pre ∧ K.f x.d x.own | none => False
def callS (P : Program) (g : FuncId) (args : List DVal) (own : List Ent) (K : ContE) : Prop := ∀ r, ∃ d own', SpecAt P (.func g) args own r d own' ∧ K.f d own'
def callY (P : Program) (id r' : Nat) (args : List DVal) (own : List Ent) (K : ContE) : Prop := ∃ e0 l e A A' b, findE own id = some e0 ∧ e0.r = r' ∧ e0.obj = .abs (yH l) ∧ findE own (id + 1) = some e ∧ e.obj = .abs A ∧ mxL args = 0 ∧ YAt P l A args b A' ∧ ∀ r, K.f (.bool b) (upE own (id + 1) r (.abs A'))
def effX (P : Program) (o : Oper) (ed : Operand → DVal) (own : List Ent) (K : ContE) : Prop := match o.op with
 | .call c => match callee ed c with
  | some (g, args) => callS P g args own K
  | none => match pkOf ed c with
   | some (id, r', args) => callY P id r' args own K
   | none => effE P o ed own K
 | _ => effE P o ed own K
theorem round_wd {P : Program} {l : Nat} {fn : FuncId} {tmps : Array Value} {assign body : Code} {w : World} {R : Ending → World → Prop} (ro : Option Nat) (h : RoundIn (wd none) 0 P l fn tmps assign body w R) : RoundIn (wd ro) 0 P l fn tmps assign body w R := h
end
end Go.Dm
end
