/- Parts of a proof, laid together: EnI1, EnR. -/
import Derived.Test.YtedjakmhhlilaaaGreatqGx8
set_option linter.unusedSimpArgs false
set_option linter.unusedVariables false
set_option linter.unusedSectionVars false
section
namespace Go.Dm
variable [DMode]
def flatV : Value → Bool
 | .bool _ | .int _ _ | .string _ => true
 | _ => false
theorem ba_eq {a b : ByteArray} : (a == b) = true ↔ a = b := by
 rw [← data_beq, beq_iff_eq]
 constructor
 ·intro h; cases a; cases b; simp at h; rw [h]
 ·rintro rfl; rfl
def updK (ks : List DVal) (k : DVal) : List DVal := match lookI ks k with
 | some _ => ks
 | none => ks ++ [k]
def updV (ks vs : List DVal) (k x : DVal) : List DVal := match lookI ks k with
 | some j => vs.set j x
 | none => vs ++ [x]
theorem mxL_append' (a b : List DVal) : mxL (a ++ b) = max (mxL a) (mxL b) := by
 induction a with
 | nil => simp [mxL]
 | cons d a ih => simp only [List.cons_append, mxL, ih]; omega
theorem mxL_set (a : List DVal) (j : Nat) (d : DVal) : mxL (a.set j d) ≤ max (mxL a) (mx d) := by
 induction a generalizing j with
 | nil => simp [mxL]
 | cons x a ih =>
  cases j with
  | zero => simp only [List.set_cons_zero, mxL]; omega
  | succ j => have := ih j; simp only [List.set_cons_succ, mxL]; omega
theorem mxL_updK (ks : List DVal) (k : DVal) : mxL (updK ks k) ≤ max (mxL ks) (mx k) := by
 unfold updK
 split
 ·omega
 ·rw [mxL_append']; simp [mxL]
theorem mxL_updV (ks vs : List DVal) (k x : DVal) : mxL (updV ks vs k x) ≤ max (mxL vs) (mx x) := by
 unfold updV
 split
 ·exact mxL_set _ _ _
 ·rw [mxL_append']; simp [mxL]
section
variable {cur : Cur} {M : List Nat} {h : Array Obj}
theorem rdV_set : ∀ {ds : List DVal} {vs : List Value} {j : Nat} {d : DVal} {v : Value}, rdV cur M h ds vs → rd cur M h d v → rdV cur M h (ds.set j d) (vs.set j v)
 | [], vs, j, d, v, h1, h2 => by simp only [rdV] at h1; subst h1; simp [rdV]
 | a :: ds, vs, j, d, v, h1, h2 => by
  simp only [rdV] at h1
  obtain ⟨u, r, rfl, h3, h4⟩ := h1
  cases j with
  | zero => simp only [List.set_cons_zero, rdV]; exact ⟨v, r, rfl, h2, h4⟩
  | succ j => simp only [List.set_cons_succ, rdV]; exact ⟨u, _, rfl, h3, rdV_set h4 h2⟩
theorem eqCs_vals : ∀ {cks : List CK} {xs ys : List DVal} {us vs : List Value}, ckAll cks xs = true → ckAll cks ys = true → eqCs xs ys = true → rdV cur M h xs us → rdV cur M h ys vs → us = vs ∧ us.all flatV = true
 | [], [], [], us, vs, _, _, _, h1, h2 => by simp only [rdV] at h1 h2; subst h1; subst h2; simp
 | c :: cks, x :: xs, y :: ys, us, vs, hx, hy, he, h1, h2 => by
  simp only [ckAll, Bool.and_eq_true] at hx hy
  simp only [eqCs, Bool.and_eq_true] at he
  simp only [rdV] at h1 h2
  obtain ⟨u, ur, rfl, h3, h4⟩ := h1
  obtain ⟨v, vr, rfl, h5, h6⟩ := h2
  obtain ⟨e1, e2⟩ := eqCs_vals hx.2 hy.2 he.2 h4 h6
  have : u = v ∧ flatV u = true := by
   have hx1 := hx.1
   have hy1 := hy.1
   have he1 := he.1
   cases c <;> cases x <;> simp only [ckOf] at hx1 <;> first | (simp at hx1; done) | skip
   all_goals cases y <;> simp only [ckOf] at hy1 <;> first | (simp at hy1; done) | skip
   ·simp only [rd] at h3 h5; simp only [eqC, beq_iff_eq] at he1; subst h3; subst h5; subst he1; exact ⟨rfl, rfl⟩
   ·simp only [rd] at h3 h5
    simp only [eqC, beq_iff_eq] at he1 hx1 hy1
    obtain ⟨rfl, _⟩ := h3
    obtain ⟨rfl, _⟩ := h5
    subst hx1; subst hy1; subst he1; exact ⟨rfl, rfl⟩
   ·simp only [rd] at h3 h5
    simp only [eqC, ba_eq] at he1
    obtain ⟨rfl, _⟩ := h3
    obtain ⟨rfl, _⟩ := h5
    subst he1; exact ⟨rfl, rfl⟩
  obtain ⟨rfl, hu⟩ := this
  subst e1
  exact ⟨rfl, by simp only [List.all_cons, Bool.and_eq_true]; exact ⟨hu, e2⟩⟩
 | [], _ :: _, _, _, _, hx, _, _, _, _ => by simp [ckAll] at hx
 | [], [], _ :: _, _, _, _, hy, _, _, _ => by simp [ckAll] at hy
 | _ :: _, [], _, _, _, hx, _, _, _, _ => by simp [ckAll] at hx
 | _ :: _, _ :: _, [], _, _, _, hy, _, _, _ => by simp [ckAll] at hy
theorem sameBits_flat : ∀ (n : Nat) (v : Value), flatV v = true → Instr.sameBits n v v = true := by
 intro n v hv
 cases v <;> simp [flatV] at hv <;> cases n <;> simp [Instr.sameBits, ba_eq]
theorem key_same {P : Program} {kt : TypeId} {x k : DVal} {u v : Value} (hx : keyOK P kt x = true) (hk : keyOK P kt k = true) (he : eqCs (cellsK x) (cellsK k) = true) (rx : rd cur M h x u) (rk : rd cur M h k v) : v = u ∧ Instr.sameBits 10000 v u = true := by
 unfold keyOK at hx hk
 split at hx
 ·rename_i cks b hf hb
  simp only [hf, hb, Bool.and_eq_true, beq_iff_eq] at hx hk
  obtain ⟨us, h1, rfl⟩ := cellsK_val hx.2 rx
  obtain ⟨vs, h2, rfl⟩ := cellsK_val hk.2 rk
  obtain ⟨rfl, h3⟩ := eqCs_vals hx.1 hk.1 he h1 h2
  refine ⟨rfl, ?_⟩
  cases b with
  | false =>
   simp only [valOf]
   match us, h1, h2, hx, hk, h3 with
   | [], h1, h2, hx, hk, h3 =>
    have hl := rdV_length _ _ h1
    have hb' := hx.2
    cases x <;> simp [cellsK, isAggD] at hl hb'
   | u :: r, h1, h2, hx, hk, h3 =>
    simp only [List.all_cons, Bool.and_eq_true] at h3
    simp
    exact sameBits_flat _ _ h3.1
  | true =>
   simp only [valOf, if_true]
   rw [show (10000 : Nat) = 9999 + 1 from rfl]
   simp only [Instr.sameBits, beq_self_eq_true, Bool.true_and, List.all_eq_true]
   intro p hp
   have hz : ∀ (l : List Value), l.all flatV = true → ∀ p ∈ l.zip l, Instr.sameBits 9999 p.1 p.2 = true := by
    intro l
    induction l with
    | nil => intro _ p hp; simp at hp
    | cons a l ih =>
     intro ha p hp
     simp only [List.all_cons, Bool.and_eq_true] at ha
     simp only [List.zip_cons_cons, List.mem_cons] at hp
     rcases hp with rfl | hp
     ·exact sameBits_flat _ _ ha.1
     ·exact ih ha.2 p hp
   exact hz us h3 p (by simpa using hp)
 ·simp at hx
theorem lookI_eq : ∀ {ks : List DVal} {x : DVal} {j : Nat}, lookI ks x = some j → ∃ k, ks[j]? = some k ∧ eqCs (cellsK x) (cellsK k) = true
 | k :: ks, x, j, hh => by
  simp only [lookI] at hh
  split at hh
  ·rename_i he
   simp only [Option.some.injEq] at hh; subst hh
   exact ⟨k, rfl, he⟩
  ·rw [Option.map_eq_some_iff] at hh
   obtain ⟨i, h1, rfl⟩ := hh
   obtain ⟨k', h2, h3⟩ := lookI_eq h1
   exact ⟨k', by simpa using h2, h3⟩
end
section
variable {P : Program} {B : Base} {s : DS} {a : Act} {w : World} {loc : Nat → Loc}
theorem Rel.newMap {id n : Nat} {dst : Option Nat} (R : Rel B s a w loc) (hlim : lim B s ≤ n) (hdst : ∀ i, dst = some i → i < B.nt) :
  Rel B ⟨putS s.slots dst (.omp id n), upE s.own id n (.map [] [])⟩ (a.put dst (.map (some w.heap.size))) (w.alloc (.map #[] 0)) (upL loc id ⟨[w.heap.size], Go.undef⟩) := by
 have hw := Upd.alloc (hotOf s.own loc) w (.map #[] 0)
 have hL : ∀ b, b ∈ (⟨[w.heap.size], Go.undef⟩ : Loc).blks → b < (w.alloc (.map #[] 0)).heap.size ∧ ((∃ e ∈ s.own, e.id = id ∧ b ∈ (loc id).blks) ∨ w.heap.size ≤ b) := by
  intro b hb
  simp only [List.mem_singleton] at hb
  subst hb
  exact ⟨by simp, .inr (Nat.le_refl _)⟩
 refine R.up hlim hdst hw (fun b hb _ => by simp only [World.alloc, Array.getElem?_push]; rw [if_neg (by omega)]) hL (.inl (Nat.le_refl _)) ?_ ?_
 ·refine ⟨w.heap.size, #[], 0, rfl, heap_alloc_new w _, ⟨by simp, by simp⟩, by simp [rdV], by simp [rdV]⟩
 ·simp only [rd]
  intro l hl
  rw [curOf_up] at hl
  simp only [Option.some.injEq] at hl
  subst hl
  exact ⟨_, rfl, rfl⟩
theorem Rel.updMap {id r n : Nat} {ks vs : List DVal} {e : Ent} {t kt et : TypeId} {k x : DVal} {mv kv xv : Value} (R : Rel B s a w loc) (he : findE s.own id = some e) (her : e.r = r) (hob : e.obj = .map ks vs)
  (ha : Rds s loc B.M0 w (.omp id r) mv) (hk : Rds s loc B.M0 w k kv) (hx : Rds s loc B.M0 w x xv) (ht : tMap P t = some (kt, et)) (hko : keyOK P kt k = true) (hkall : ks.all (keyOK P kt) = true)
  (hmk : mx k ≤ mxS s.slots) (hmx : mx x ≤ mxS s.slots) (hn : lim B s ≤ n) :
  ∃ w', (Instr.mapUpdate t mv kv xv).run P w = .ok () w' ∧ Rel B ⟨s.slots, upE s.own id r (.map (updK ks k) (updV ks vs k x))⟩ a w' (upL loc id (loc id)) := by
 obtain ⟨hmem, hid⟩ := findE_ent he
 have hob' := R.st.ok e hmem
 rw [hob] at hob'
 obtain ⟨b, es, clk, h1, h2, h3, h4, h5⟩ := hob'
 rw [hid] at h1
 have hcur : curOf s.own loc id r = some (loc id) := by unfold curOf; rw [he]; simp [her]
 simp only [Rds, rd] at ha
 obtain ⟨b', hb', rfl⟩ := ha _ hcur
 have hb1 : b ∈ (loc id).blks := by rw [h1]; simp
 rw [h1] at hb'
 simp only [List.cons.injEq, and_true] at hb'
 subst hb'
 have hu : P.underlying t = some (.map kt et) := by unfold tMap at ht; split at ht <;> simp_all
 have hfind := run_findKey (w := w) hko hk es.toList ks hkall h4
 have hlen1 := rdV_length _ _ h4
 have hlen2 := rdV_length _ _ h5
 simp only [List.length_map, Array.length_toList] at hlen1 hlen2
 have hblt := (Array.getElem?_eq_some_iff.1 h2).1
 have hmxo := (mem_mxE hmem).2
 rw [hob] at hmxo
 simp only [mxO] at hmxo
 -- the world behind it
 have main : ∀ (es' : Array MapEntry) (clk' : Nat), bornC es' clk' → rdV (cu s loc) (hm s loc B.M0) w.heap (updK ks k) (es'.toList.map (·.key)) → rdV (cu s loc) (hm s loc B.M0) w.heap (updV ks vs k x) (es'.toList.map (·.val)) →
   Rel B ⟨s.slots, upE s.own id r (.map (updK ks k) (updV ks vs k x))⟩ a { w with heap := w.heap.setIfInBounds b (.map es' clk') } (upL loc id (loc id)) := by
  intro es' clk' hb hk1 hv1
  have hw : Upd (hotOf s.own loc) w { w with heap := w.heap.setIfInBounds b (.map es' clk') } := by
   refine ⟨rfl, rfl, rfl, fun _ => Nat.le_refl _, by simp, fun b0 _ hn0 => ?_⟩
   have hne : b ≠ b0 := fun h => hn0 (h ▸ mem_hot hmem (by rw [hid]; exact hb1))
   simp [Array.getElem?_setIfInBounds, hne]
  have hL : ∀ b0, b0 ∈ (loc id).blks → b0 < ({ w with heap := w.heap.setIfInBounds b (.map es' clk') } : World).heap.size ∧ ((∃ e ∈ s.own, e.id = id ∧ b0 ∈ (loc id).blks) ∨ w.heap.size ≤ b0) := by
   intro b0 hb0
   refine ⟨?_, .inl ⟨e, hmem, hid, hb0⟩⟩
   rw [h1] at hb0
   simp only [List.mem_singleton] at hb0
   subst hb0
   simpa using hblt
  have W := R.weakUp (obj := .map (updK ks k) (updV ks vs k x)) hn hw hL (.inr hcur)
  unfold lim at hn
  refine R.up (hLn := by rw [h1]; simp) (dst := none) (v := Go.undef) (d := .any) (n := n) (by unfold lim; exact hn) (fun i hi => by simp at hi) hw ?_ hL (.inr hcur) ?_ (by simp [rd])
  ·intro b0 hb0 hne
   have hne' : b ≠ b0 := fun h => hne e hmem hid (by rw [← h]; exact hb1)
   simp [Array.getElem?_setIfInBounds, hne']
  ·refine ⟨b, es', clk', h1, by simp [Array.getElem?_setIfInBounds, hblt], hb, rdV_weak W _ _ ?_ hk1, rdV_weak W _ _ ?_ hv1⟩
   ·have := mxL_updK ks k; omega
   ·have := mxL_updV ks vs k x; omega
 simp only [Instr.mapUpdate, Sem.run_bind, run_underlying hu, Result.andThen_ok, MapKept.run_getObj_map h2, run_checkKey' hko hk, hfind]
 cases hq : lookI ks k with
 | none =>
  simp only [Option.map_none]
  refine ⟨_, MapKept.run_setObj_map _ h2, main _ _ ?_ ?_ ?_⟩
  ·obtain ⟨rfl, g2⟩ := h3
   refine ⟨by simp, fun i e' he' => ?_⟩
   rw [Array.getElem?_push] at he'
   split at he'
   ·rename_i hi
    simp only [Option.some.injEq] at he'
    subst he'
    exact hi.symm
   ·exact g2 i e' he'
  ·unfold updK
   rw [hq]
   simp only [Array.toList_push, List.map_append, List.map_cons, List.map_nil]
   exact rdV_append _ _ _ _ h4 (by simp only [rdV]; exact ⟨kv, [], rfl, hk, rfl⟩)
  ·unfold updV
   rw [hq]
   simp only [Array.toList_push, List.map_append, List.map_cons, List.map_nil]
   exact rdV_append _ _ _ _ h5 (by simp only [rdV]; exact ⟨xv, [], rfl, hx, rfl⟩)
 | some j =>
  simp only [Option.map_some]
  obtain ⟨k0, hk0, heq⟩ := lookI_eq hq
  obtain ⟨v0, hv0, hr0⟩ := rdV_at _ _ j k0 h4 hk0
  have hjlt : j < es.size := by
   have := (List.getElem?_eq_some_iff.1 hk0).1
   omega
  have hkey : (es[j]?).map (·.key) = some v0 := by
   rw [List.getElem?_map] at hv0
   simpa using hv0
  obtain ⟨rfl, hsb⟩ := key_same hko (List.all_eq_true.1 hkall k0 (List.mem_of_getElem? hk0)) heq hk hr0
  simp only [hkey, Option.getD_some, Instr.keyThatStays, hsb, if_true, Sem.run_pure, Result.andThen_ok]
  refine ⟨_, MapKept.run_setObj_map _ h2, main _ _ ?_ ?_ ?_⟩
  ·obtain ⟨rfl, g2⟩ := h3
   refine ⟨by simp, fun i e' he' => ?_⟩
   rw [Array.getElem?_modify] at he'
   split at he'
   ·cases hes : es[i]? with
    | none => rw [hes] at he'; simp at he'
    | some e0 =>
     rw [hes] at he'
     simp only [Option.map_some, Option.some.injEq] at he'
     rw [← he']
     exact g2 i e0 hes
   ·exact g2 i e' he'
  ·unfold updK
   rw [hq]
   have hkeys : (es.modify j fun e => { e with key := v0, val := xv }).toList.map (·.key) = es.toList.map (·.key) := by
    apply List.ext_getElem?
    intro i
    simp only [List.getElem?_map, Array.getElem?_toList, Array.getElem?_modify]
    split
    ·rename_i hij
     subst hij
     rw [hkey]
     cases hes : es[j]? <;> simp_all
    ·rfl
   rw [hkeys]; exact h4
  ·unfold updV
   rw [hq]
   have hvals : (es.modify j fun e => { e with key := v0, val := xv }).toList.map (·.val) = (es.toList.map (·.val)).set j xv := by
    apply List.ext_getElem?
    intro i
    simp only [List.getElem?_map, Array.getElem?_toList, Array.getElem?_modify, List.getElem?_set, List.length_map, Array.length_toList]
    split
    ·rename_i hij
     subst hij
     simp [hjlt]
    ·rfl
   rw [hvals]
   exact rdV_set h5 hx
def delK (ks : List DVal) (k : DVal) : List DVal := match lookI ks k with | some j => ks.eraseIdx j | none => ks
def delV (ks vs : List DVal) (k : DVal) : List DVal := match lookI ks k with | some j => vs.eraseIdx j | none => vs
theorem mxL_erase : ∀ (l : List DVal) (j : Nat), mxL (l.eraseIdx j) ≤ mxL l
 | [], _ => by simp
 | d :: l, 0 => by simp only [List.eraseIdx_cons_zero, mxL]; omega
 | d :: l, j + 1 => by have := mxL_erase l j; simp only [List.eraseIdx_cons_succ, mxL]; omega
theorem mxL_delK (ks : List DVal) (k : DVal) : mxL (delK ks k) ≤ mxL ks := by
 unfold delK; split
 ·exact mxL_erase _ _
 ·exact Nat.le_refl _
theorem mxL_delV (ks vs : List DVal) (k : DVal) : mxL (delV ks vs k) ≤ mxL vs := by
 unfold delV; split
 ·exact mxL_erase _ _
 ·exact Nat.le_refl _
theorem rdV_erase {cur : Cur} {M : List Nat} {h : Array Obj} : ∀ {ds : List DVal} {vs : List Value} (j : Nat), rdV cur M h ds vs → rdV cur M h (ds.eraseIdx j) (vs.eraseIdx j)
 | [], vs, j, hr => by simp only [rdV] at hr; subst hr; simp [rdV]
 | d :: ds, vs, 0, hr => by
  simp only [rdV] at hr
  obtain ⟨v, r, rfl, _, h2⟩ := hr
  simpa using h2
 | d :: ds, vs, j + 1, hr => by
  simp only [rdV] at hr
  obtain ⟨v, r, rfl, h1, h2⟩ := hr
  simp only [List.eraseIdx_cons_succ, rdV]
  exact ⟨v, _, rfl, h1, rdV_erase j h2⟩
theorem map_erase {α β : Type} (f : α → β) : ∀ (l : List α) (j : Nat), (l.eraseIdx j).map f = (l.map f).eraseIdx j
 | [], _ => by simp
 | _ :: l, 0 => by simp
 | _ :: l, j + 1 => by simp [map_erase f l j]
end
def renR (φ : Nat → Nat → Option (Nat × Nat)) : DVal → DVal
 | .osl i r => match φ i r with | some p => .osl p.1 p.2 | none => .any
 | .vw i r k bs a n => match φ i r with | some p => .vw p.1 p.2 k bs a n | none => .any
 | .bx i r off => match φ i r with | some p => .bx p.1 p.2 off | none => .any
 | .rx i r k a b => match φ i r with | some p => .rx p.1 p.2 k a b | none => .any
 | .omp i r => match φ i r with | some p => .omp p.1 p.2 | none => .any
 | .pk i r => match φ i r with | some p => .pk p.1 p.2 | none => .any
 | d => d
def okR : DVal → Prop
 | .osl _ _ | .vw _ _ _ _ _ _ | .bx _ _ _ | .rx _ _ _ _ _ | .omp _ _ | .pk _ _ => True
 | d => mx d = 0
def okRs : List DVal → Prop
 | [] => True
 | d :: ds => okR d ∧ okRs ds
def ren2 (φ : Nat → Nat → Option (Nat × Nat)) : DVal → DVal
 | .fn f us cs => .fn f (us.map (renR φ)) (cs.map (renR φ))
 | d => renR φ d
def ok2 : DVal → Prop
 | .fn _ us cs => okRs us ∧ okRs cs
 | d => okR d
def ok2s : List DVal → Prop
 | [] => True
 | d :: ds => ok2 d ∧ ok2s ds
def ren3 (φ : Nat → Nat → Option (Nat × Nat)) : DVal → DVal
 | .agg cs => .agg (cs.map (ren2 φ))
 | d => ren2 φ d
def ok3 : DVal → Prop
 | .agg cs => ok2s cs
 | d => ok2 d
def ok3s : List DVal → Prop
 | [] => True
 | d :: ds => ok3 d ∧ ok3s ds
def renD (φ : Nat → Nat → Option (Nat × Nat)) : DVal → DVal
 | .tup cs => .tup (cs.map (ren3 φ))
 | d => ren3 φ d
def okD : DVal → Prop
 | .tup cs => ok3s cs
 | d => ok3 d
def ok2r : List (List DVal) → Prop
 | [] => True
 | cs :: es => ok2s cs ∧ ok2r es
def ren2r (φ : Nat → Nat → Option (Nat × Nat)) : List (List DVal) → List (List DVal)
 | [] => []
 | cs :: es => cs.map (ren2 φ) :: ren2r φ es
def renO (φ : Nat → Nat → Option (Nat × Nat)) : DObj → DObj
 | .box cs => .box (cs.map (ren2 φ))
 | .row et k bs es => if mxR es = 0 then .row et k bs es else .row et k bs (ren2r φ es)
 | o => o
def okO : DObj → Prop
 | .box cs => ok2s cs
 | .row _ _ _ es => mxR es = 0 ∨ ok2r es
 | .map ks vs => mxL ks = 0 ∧ mxL vs = 0
 | .abs _ => True
 | .lrec .. => False
 | .glob .. => False
 | .mapD .. => False
section
variable {cur cur' : Cur} {M M' : List Nat} {h h' : Array Obj} {φ : Nat → Nat → Option (Nat × Nat)}
def Leads (cur cur' : Cur) (φ : Nat → Nat → Option (Nat × Nat)) : Prop := ∀ i r p l, φ i r = some p → cur' p.1 p.2 = some l → cur i r = some l
theorem rd_renR (W : Weak cur cur' M M' h h' 0) (L : Leads cur cur' φ) {d : DVal} {v : Value} (hk : okR d) (hr : rd cur M h d v) : rd cur' M' h' (renR φ d) v := by
 cases d with
 | osl i r =>
  simp only [renR]
  split
  ·rename_i p hp; simp only [rd] at hr ⊢; exact fun l hl => hr l (L i r p l hp hl)
  ·simp [rd]
 | bx i r off =>
  simp only [renR]
  split
  ·rename_i p hp; simp only [rd] at hr ⊢; exact fun l hl => hr l (L i r p l hp hl)
  ·simp [rd]
 | vw i r k bs x n =>
  simp only [renR]
  split
  ·rename_i p hp; simp only [rd] at hr ⊢; exact fun l hl => hr l (L i r p l hp hl)
  ·simp [rd]
 | rx i r k a b =>
  simp only [renR]
  split
  ·rename_i p hp; simp only [rd] at hr ⊢; exact fun l hl => hr l (L i r p l hp hl)
  ·simp [rd]
 | omp i r =>
  simp only [renR]
  split
  ·rename_i p hp; simp only [rd] at hr ⊢; exact fun l hl => hr l (L i r p l hp hl)
  ·simp [rd]
 | pk i r =>
  simp only [renR]
  split
  ·rename_i p hp; simp only [rd] at hr ⊢; exact fun l hl => hr l (L i r p l hp hl)
  ·simp [rd]
 | _ => simp only [okR] at hk; simp only [renR]; exact rd_weak W _ v (Nat.le_of_eq hk) hr
theorem rdV_renR (W : Weak cur cur' M M' h h' 0) (L : Leads cur cur' φ) : ∀ {ds : List DVal} {vs : List Value}, okRs ds → rdV cur M h ds vs → rdV cur' M' h' (ds.map (renR φ)) vs
 | [], vs, _, hr => by simpa [rdV] using hr
 | d :: ds, vs, hk, hr => by
  simp only [okRs] at hk
  simp only [rdV, List.map_cons] at hr ⊢
  obtain ⟨v, r, rfl, h1, h2⟩ := hr
  exact ⟨v, r, rfl, rd_renR W L hk.1 h1, rdV_renR W L hk.2 h2⟩
theorem rd_ren2 (W : Weak cur cur' M M' h h' 0) (L : Leads cur cur' φ) {d : DVal} {v : Value} (hk : ok2 d) (hr : rd cur M h d v) : rd cur' M' h' (ren2 φ d) v := by
 cases d with
 | fn f us cs =>
  simp only [ok2] at hk
  simp only [ren2, rd] at hr ⊢
  obtain ⟨us', cs', h1, h2, h3⟩ := hr
  exact ⟨us', cs', h1, rdV_renR W L hk.1 h2, rdV_renR W L hk.2 h3⟩
 | _ => exact rd_renR W L (by simpa only [ok2] using hk) hr
theorem rdV_ren2 (W : Weak cur cur' M M' h h' 0) (L : Leads cur cur' φ) : ∀ {ds : List DVal} {vs : List Value}, ok2s ds → rdV cur M h ds vs → rdV cur' M' h' (ds.map (ren2 φ)) vs
 | [], vs, _, hr => by simpa [rdV] using hr
 | d :: ds, vs, hk, hr => by
  simp only [ok2s] at hk
  simp only [rdV, List.map_cons] at hr ⊢
  obtain ⟨v, r, rfl, h1, h2⟩ := hr
  exact ⟨v, r, rfl, rd_ren2 W L hk.1 h1, rdV_ren2 W L hk.2 h2⟩
theorem rdC_ren2 (W : Weak cur cur' M M' h h' 0) (L : Leads cur cur' φ) : ∀ {ds : List DVal} {arr : Array Value} {o : Nat}, ok2s ds → rdC cur M h ds arr o → rdC cur' M' h' (ds.map (ren2 φ)) arr o
 | [], _, _, _, _ => by simp [rdC]
 | d :: ds, arr, o, hk, hr => by
  simp only [ok2s] at hk
  simp only [rdC, List.map_cons] at hr ⊢
  obtain ⟨⟨v, h1, h2, h3⟩, h4⟩ := hr
  exact ⟨⟨v, h1, h2, rd_ren2 W L hk.1 h3⟩, rdC_ren2 W L hk.2 h4⟩
theorem rd_ren3 (W : Weak cur cur' M M' h h' 0) (L : Leads cur cur' φ) {d : DVal} {v : Value} (hk : ok3 d) (hr : rd cur M h d v) : rd cur' M' h' (ren3 φ d) v := by
 cases d with
 | agg cs =>
  simp only [ok3] at hk
  simp only [ren3, rd] at hr ⊢
  obtain ⟨us, h1, h2⟩ := hr
  exact ⟨us, h1, rdV_ren2 W L hk h2⟩
 | _ => exact rd_ren2 W L (by simpa only [ok3] using hk) hr
theorem rdV_ren3 (W : Weak cur cur' M M' h h' 0) (L : Leads cur cur' φ) : ∀ {ds : List DVal} {vs : List Value}, ok3s ds → rdV cur M h ds vs → rdV cur' M' h' (ds.map (ren3 φ)) vs
 | [], vs, _, hr => by simpa [rdV] using hr
 | d :: ds, vs, hk, hr => by
  simp only [ok3s] at hk
  simp only [rdV, List.map_cons] at hr ⊢
  obtain ⟨v, r, rfl, h1, h2⟩ := hr
  exact ⟨v, r, rfl, rd_ren3 W L hk.1 h1, rdV_ren3 W L hk.2 h2⟩
theorem rd_renD (W : Weak cur cur' M M' h h' 0) (L : Leads cur cur' φ) {d : DVal} {v : Value} (hk : okD d) (hr : rd cur M h d v) : rd cur' M' h' (renD φ d) v := by
 cases d with
 | tup cs =>
  simp only [okD] at hk
  simp only [renD, rd] at hr ⊢
  obtain ⟨us, h1, h2⟩ := hr
  exact ⟨us, h1, rdV_ren3 W L hk h2⟩
 | _ => exact rd_ren3 W L (by simpa only [okD] using hk) hr
theorem rdR_ren2 (W : Weak cur cur' M M' h h' 0) (L : Leads cur cur' φ) {k : Nat} : ∀ {es : List (List DVal)} {arr : Array Value} {o : Nat}, ok2r es → rdR cur M h k es arr o → rdR cur' M' h' k (ren2r φ es) arr o
 | [], _, _, _, _ => by simp [ren2r, rdR]
 | cs :: es, arr, o, hk, hr => by
  simp only [ok2r] at hk
  simp only [rdR, ren2r] at hr ⊢
  exact ⟨by simpa using hr.1, rdC_ren2 W L hk.1 hr.2.1, rdR_ren2 W L hk.2 hr.2.2⟩
theorem ren2r_len (φ : Nat → Nat → Option (Nat × Nat)) (es : List (List DVal)) : (ren2r φ es).length = es.length := by
 induction es with
 | nil => rfl
 | cons c l ih => simp [ren2r, ih]
theorem ObjOK_ren (W : Weak cur cur' M M' h h' 0) (L : Leads cur cur' φ) {l l' : Loc} {obj : DObj} (hk : okO obj) (hl : l' = l)
  (keep : ∀ b o, b ∈ l.blks → h[b]? = some o → h'[b]? = some o) (ho : ObjOK cur M h l obj) : ObjOK cur' M' h' l' (renO φ obj) := by
 subst hl
 cases obj with
 | box cs =>
  simp only [okO] at hk
  obtain ⟨b, arr, ty, h1, h2, h3, h4⟩ := ho
  exact ⟨b, arr, ty, h1, keep b _ (by simp [h1]) h2, by simp [h3], rdC_ren2 W L hk h4⟩
 | row et k bs es =>
  simp only [renO]
  split
  ·rename_i h0
   exact ObjOK_weak W (by simp [mxO, h0]) keep ho
  ·rename_i h0
   simp only [okO] at hk
   have hk := hk.resolve_left h0
   obtain ⟨hb, ho⟩ := ho
   refine ⟨by rw [ren2r_len]; exact hb, ?_⟩
   rcases ho with ⟨rfl, h1, h2⟩ | ⟨b, arr, cap, h1, h2, h3, h4, h5, h6, h7⟩
   ·exact .inl ⟨rfl, h1, h2⟩
   ·exact .inr ⟨b, arr, cap, h1, by rw [ren2r_len]; exact h2, keep b _ (by simp [h1]) h3, by rw [ren2r_len]; exact h4, h5, h6, rdR_ren2 W L hk h7⟩
 | map ks vs => exact ObjOK_weak W (by simp only [okO] at hk; simp [renO, mxO, hk]) keep ho
 | abs A => exact ObjOK_weak W (by simp [renO, mxO]) keep ho
 | lrec => exact hk.elim
 | glob => exact hk.elim
 | mapD => exact hk.elim
end
def FEnters (P : Program) : Fn → Prop
 | .func g => Enters P g
 | _ => True
def DSpec (P : Program) (f : Fn) (args : List DVal) (own : List Ent) (d : DVal) (own' : List Ent) : Prop :=
 (∀ e ∈ own', e.r ≤ 1) ∧ FEnters P f ∧ ∀ (M : List Nat) (w : World) (loc : Nat → Loc) (vs : Array Value), St own loc M w.heap → rdV (curOf own loc) (hotOf own loc ++ M) w.heap args vs.toList →
  FCalls P f vs w fun v w' => ∃ loc', St own' loc' M w'.heap ∧ Upd (hotOf own loc) w w' ∧ (∀ b ∈ hotOf own' loc', b ∈ hotOf own loc ∨ w.heap.size ≤ b) ∧
   (∀ e ∈ own', e.r < 1 → curOf own loc e.id e.r = some (loc' e.id)) ∧ rd (curOf own' loc') (hotOf own' loc' ++ M) w'.heap d v
def phiOf (own : List Ent) : List (Nat × Nat × Nat) → Nat → Nat → Option (Nat × Nat)
 | [], _, _ => none
 | (i, j, v) :: ρ, i', r' => if i' = i then (match findE own i with | some e => if r' = e.r then some (j, v) else none | none => none) else phiOf own ρ i' r'
def outE (own : List Ent) (φ : Nat → Nat → Option (Nat × Nat)) : List (Nat × Nat × Nat) → Option (List Ent)
 | [] => some []
 | (i, j, v) :: ρ => match findE own i, outE own φ ρ with
  | some e, some l => some (⟨j, v, renO φ e.obj⟩ :: l)
  | _, _ => none
def outOK (own : List Ent) : List (Nat × Nat × Nat) → Prop
 | [] => True
 | (i, j, v) :: ρ => (match findE own i with | some e => okO e.obj ∧ (v = 1 ∨ (v = 0 ∧ i = j ∧ e.r = 0)) | none => False) ∧ outOK own ρ
section
variable {own : List Ent}
theorem phiOf_some : ∀ {ρ : List (Nat × Nat × Nat)} {i r : Nat} {p : Nat × Nat}, phiOf own ρ i r = some p → ∃ e, (i, p.1, p.2) ∈ ρ ∧ findE own i = some e ∧ e.r = r
 | [], i, r, p, h => by simp [phiOf] at h
 | (i0, j, v) :: ρ, i, r, p, h => by
  simp only [phiOf] at h
  split at h
  ·rename_i hi
   subst hi
   split at h
   ·rename_i e he
    split at h
    ·rename_i hr
     simp only [Option.some.injEq] at h
     subst h
     exact ⟨e, List.mem_cons_self, he, hr.symm⟩
    ·simp at h
   ·simp at h
  ·obtain ⟨e, h1, h2, h3⟩ := phiOf_some h
   exact ⟨e, List.mem_cons_of_mem _ h1, h2, h3⟩
theorem outE_mem {φ : Nat → Nat → Option (Nat × Nat)} : ∀ {ρ : List (Nat × Nat × Nat)} {l : List Ent}, outE own φ ρ = some l → (∀ x ∈ l, ∃ i j v e, (i, j, v) ∈ ρ ∧ findE own i = some e ∧ x = ⟨j, v, renO φ e.obj⟩) ∧ l.map (·.id) = ρ.map (·.2.1)
 | [], l, h => by simp only [outE, Option.some.injEq] at h; subst h; simp
 | (i, j, v) :: ρ, l, h => by
  simp only [outE] at h
  split at h
  ·rename_i e l' he hl'
   simp only [Option.some.injEq] at h
   subst h
   obtain ⟨h1, h2⟩ := outE_mem hl'
   refine ⟨fun x hx => ?_, by simp [h2]⟩
   rcases List.mem_cons.1 hx with rfl | hx
   ·exact ⟨i, j, v, e, List.mem_cons_self, he, rfl⟩
   ·obtain ⟨i', j', v', e', g1, g2, g3⟩ := h1 x hx
    exact ⟨i', j', v', e', List.mem_cons_of_mem _ g1, g2, g3⟩
  ·simp at h
theorem outOK_mem : ∀ {ρ : List (Nat × Nat × Nat)}, outOK own ρ → ∀ i j v, (i, j, v) ∈ ρ → ∃ e, findE own i = some e ∧ okO e.obj ∧ (v = 1 ∨ (v = 0 ∧ i = j ∧ e.r = 0))
 | [], _, i, j, v, hm => by cases hm
 | (i0, j0, v0) :: ρ, h, i, j, v, hm => by
  simp only [outOK] at h
  rcases List.mem_cons.1 hm with heq | hm
  ·simp only [Prod.mk.injEq] at heq
   obtain ⟨rfl, rfl, rfl⟩ := heq
   have h1 := h.1
   split at h1
   ·rename_i e he; exact ⟨e, he, h1⟩
   ·exact h1.elim
  ·exact outOK_mem h.2 i j v hm
end
end Go.Dm
end
