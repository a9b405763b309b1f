/- The data machine, second make, part I1: own maps: a new one, an entry laid or changed. -/
import Derived.Test.YtihkcegelghcpaaEnI
set_option linter.unusedSimpArgs false
set_option linter.unusedVariables false
namespace Go.Dm

def flatV : Value → Bool
  | .bool _ | .int _ _ | .string _ => true
  | _ => false

theorem ba_eq {a b : ByteArray} : (a == b) = true ↔ a = b := by
  rw [← data_beq, beq_iff_eq]
  constructor
  · intro h; cases a; cases b; simp at h; rw [h]
  · rintro rfl; rfl

def updK (ks : List DVal) (k : DVal) : List DVal := match lookI ks k with
  | some _ => ks
  | none => ks ++ [k]
def updV (ks vs : List DVal) (k x : DVal) : List DVal := match lookI ks k with
  | some j => vs.set j x
  | none => vs ++ [x]

theorem mxL_append' (a b : List DVal) : mxL (a ++ b) = max (mxL a) (mxL b) := by
  induction a with
  | nil => simp [mxL]
  | cons d a ih => simp only [List.cons_append, mxL, ih]; omega
theorem mxL_set (a : List DVal) (j : Nat) (d : DVal) : mxL (a.set j d) ≤ max (mxL a) (mx d) := by
  induction a generalizing j with
  | nil => simp [mxL]
  | cons x a ih =>
    cases j with
    | zero => simp only [List.set_cons_zero, mxL]; omega
    | succ j => have := ih j; simp only [List.set_cons_succ, mxL]; omega
theorem mxL_updK (ks : List DVal) (k : DVal) : mxL (updK ks k) ≤ max (mxL ks) (mx k) := by
  unfold updK
  split
  · omega
  · rw [mxL_append']; simp [mxL]
theorem mxL_updV (ks vs : List DVal) (k x : DVal) : mxL (updV ks vs k x) ≤ max (mxL vs) (mx x) := by
  unfold updV
  split
  · exact mxL_set _ _ _
  · rw [mxL_append']; simp [mxL]

section
variable {cur : Cur} {M : List Nat} {h : Array Obj}
theorem rdV_set : ∀ {ds : List DVal} {vs : List Value} {j : Nat} {d : DVal} {v : Value}, rdV cur M h ds vs → rd cur M h d v → rdV cur M h (ds.set j d) (vs.set j v)
  | [], vs, j, d, v, h1, h2 => by simp only [rdV] at h1; subst h1; simp [rdV]
  | a :: ds, vs, j, d, v, h1, h2 => by
    simp only [rdV] at h1
    obtain ⟨u, r, rfl, h3, h4⟩ := h1
    cases j with
    | zero => simp only [List.set_cons_zero, rdV]; exact ⟨v, r, rfl, h2, h4⟩
    | succ j => simp only [List.set_cons_succ, rdV]; exact ⟨u, _, rfl, h3, rdV_set h4 h2⟩

/-- two flat data that are alike are one value -/
theorem eqCs_vals : ∀ {cks : List CK} {xs ys : List DVal} {us vs : List Value}, ckAll cks xs = true → ckAll cks ys = true → eqCs xs ys = true → rdV cur M h xs us → rdV cur M h ys vs → us = vs ∧ us.all flatV = true
  | [], [], [], us, vs, _, _, _, h1, h2 => by simp only [rdV] at h1 h2; subst h1; subst h2; simp
  | c :: cks, x :: xs, y :: ys, us, vs, hx, hy, he, h1, h2 => by
    simp only [ckAll, Bool.and_eq_true] at hx hy
    simp only [eqCs, Bool.and_eq_true] at he
    simp only [rdV] at h1 h2
    obtain ⟨u, ur, rfl, h3, h4⟩ := h1
    obtain ⟨v, vr, rfl, h5, h6⟩ := h2
    obtain ⟨e1, e2⟩ := eqCs_vals hx.2 hy.2 he.2 h4 h6
    have : u = v ∧ flatV u = true := by
      have hx1 := hx.1
      have hy1 := hy.1
      have he1 := he.1
      cases c <;> cases x <;> simp only [ckOf] at hx1 <;> first | (simp at hx1; done) | skip
      all_goals cases y <;> simp only [ckOf] at hy1 <;> first | (simp at hy1; done) | skip
      · simp only [rd] at h3 h5; simp only [eqC, beq_iff_eq] at he1; subst h3; subst h5; subst he1; exact ⟨rfl, rfl⟩
      · simp only [rd] at h3 h5
        simp only [eqC, beq_iff_eq] at he1 hx1 hy1
        obtain ⟨rfl, _⟩ := h3
        obtain ⟨rfl, _⟩ := h5
        subst hx1; subst hy1; subst he1; exact ⟨rfl, rfl⟩
      · simp only [rd] at h3 h5
        simp only [eqC, ba_eq] at he1
        obtain ⟨rfl, _⟩ := h3
        obtain ⟨rfl, _⟩ := h5
        subst he1; exact ⟨rfl, rfl⟩
    obtain ⟨rfl, hu⟩ := this
    subst e1
    exact ⟨rfl, by simp only [List.all_cons, Bool.and_eq_true]; exact ⟨hu, e2⟩⟩
  | [], _ :: _, _, _, _, hx, _, _, _, _ => by simp [ckAll] at hx
  | [], [], _ :: _, _, _, _, hy, _, _, _ => by simp [ckAll] at hy
  | _ :: _, [], _, _, _, hx, _, _, _, _ => by simp [ckAll] at hx
  | _ :: _, _ :: _, [], _, _, _, hy, _, _, _ => by simp [ckAll] at hy

theorem sameBits_flat : ∀ (n : Nat) (v : Value), flatV v = true → Instr.sameBits n v v = true := by
  intro n v hv
  cases v <;> simp [flatV] at hv <;> cases n <;> simp [Instr.sameBits, ba_eq]

theorem key_same {P : Program} {kt : TypeId} {x k : DVal} {u v : Value} (hx : keyOK P kt x = true) (hk : keyOK P kt k = true) (he : eqCs (cellsK x) (cellsK k) = true) (rx : rd cur M h x u) (rk : rd cur M h k v) : v = u ∧ Instr.sameBits 10000 v u = true := by
  unfold keyOK at hx hk
  split at hx
  · rename_i cks b hf hb
    simp only [hf, hb, Bool.and_eq_true, beq_iff_eq] at hx hk
    obtain ⟨us, h1, rfl⟩ := cellsK_val hx.2 rx
    obtain ⟨vs, h2, rfl⟩ := cellsK_val hk.2 rk
    obtain ⟨rfl, h3⟩ := eqCs_vals hx.1 hk.1 he h1 h2
    refine ⟨rfl, ?_⟩
    cases b with
    | false =>
      simp only [valOf]
      match us, h1, h2, hx, hk, h3 with
      | [], h1, h2, hx, hk, h3 =>
        have hl := rdV_length _ _ h1
        have hb' := hx.2
        cases x <;> simp [cellsK, isAggD] at hl hb'
      | u :: r, h1, h2, hx, hk, h3 =>
        simp only [List.all_cons, Bool.and_eq_true] at h3
        simp
        exact sameBits_flat _ _ h3.1
    | true =>
      simp only [valOf, if_true]
      rw [show (10000 : Nat) = 9999 + 1 from rfl]
      simp only [Instr.sameBits, beq_self_eq_true, Bool.true_and, List.all_eq_true]
      intro p hp
      have hz : ∀ (l : List Value), l.all flatV = true → ∀ p ∈ l.zip l, Instr.sameBits 9999 p.1 p.2 = true := by
        intro l
        induction l with
        | nil => intro _ p hp; simp at hp
        | cons a l ih =>
          intro ha p hp
          simp only [List.all_cons, Bool.and_eq_true] at ha
          simp only [List.zip_cons_cons, List.mem_cons] at hp
          rcases hp with rfl | hp
          · exact sameBits_flat _ _ ha.1
          · exact ih ha.2 p hp
      exact hz us h3 p (by simpa using hp)
  · simp at hx

theorem lookI_eq : ∀ {ks : List DVal} {x : DVal} {j : Nat}, lookI ks x = some j → ∃ k, ks[j]? = some k ∧ eqCs (cellsK x) (cellsK k) = true
  | k :: ks, x, j, hh => by
    simp only [lookI] at hh
    split at hh
    · rename_i he
      simp only [Option.some.injEq] at hh; subst hh
      exact ⟨k, rfl, he⟩
    · rw [Option.map_eq_some_iff] at hh
      obtain ⟨i, h1, rfl⟩ := hh
      obtain ⟨k', h2, h3⟩ := lookI_eq h1
      exact ⟨k', by simpa using h2, h3⟩
end

section
variable {P : Program} {B : Base} {s : DS} {a : Act} {w : World} {loc : Nat → Loc}

/-- a new own map -/
theorem Rel.newMap {id n : Nat} {dst : Option Nat} (R : Rel B s a w loc) (hlim : lim B s ≤ n) (hdst : ∀ i, dst = some i → i < B.nt) :
    Rel B ⟨putS s.slots dst (.omp id n), upE s.own id n (.map [] [])⟩ (a.put dst (.map (some w.heap.size))) (w.alloc (.map #[] 0)) (upL loc id ⟨[w.heap.size], Go.undef⟩) := by
  have hw := Upd.alloc (hotOf s.own loc) w (.map #[] 0)
  have hL : ∀ b, b ∈ (⟨[w.heap.size], Go.undef⟩ : Loc).blks → b < (w.alloc (.map #[] 0)).heap.size ∧ ((∃ e ∈ s.own, e.id = id ∧ b ∈ (loc id).blks) ∨ w.heap.size ≤ b) := by
    intro b hb
    simp only [List.mem_singleton] at hb
    subst hb
    exact ⟨by simp, .inr (Nat.le_refl _)⟩
  refine R.up hlim hdst hw (fun b hb _ => by simp only [World.alloc, Array.getElem?_push]; rw [if_neg (by omega)]) hL (.inl (Nat.le_refl _)) ?_ ?_
  · refine ⟨w.heap.size, #[], 0, rfl, heap_alloc_new w _, ⟨by simp, by simp⟩, by simp [rdV], by simp [rdV]⟩
  · simp only [rd]
    intro l hl
    rw [curOf_up] at hl
    simp only [Option.some.injEq] at hl
    subst hl
    exact ⟨_, rfl, rfl⟩

/-- an own map's entry -/
theorem Rel.updMap {id r n : Nat} {ks vs : List DVal} {e : Ent} {t kt et : TypeId} {k x : DVal} {mv kv xv : Value} (R : Rel B s a w loc) (he : findE s.own id = some e) (her : e.r = r) (hob : e.obj = .map ks vs)
    (ha : Rds s loc B.M0 w (.omp id r) mv) (hk : Rds s loc B.M0 w k kv) (hx : Rds s loc B.M0 w x xv) (ht : tMap P t = some (kt, et)) (hko : keyOK P kt k = true) (hkall : ks.all (keyOK P kt) = true)
    (hmk : mx k ≤ mxS s.slots) (hmx : mx x ≤ mxS s.slots) (hn : lim B s ≤ n) :
    ∃ w', (Instr.mapUpdate t mv kv xv).run P w = .ok () w' ∧ Rel B ⟨s.slots, upE s.own id r (.map (updK ks k) (updV ks vs k x))⟩ a w' (upL loc id (loc id)) := by
  obtain ⟨hmem, hid⟩ := findE_ent he
  have hob' := R.st.ok e hmem
  rw [hob] at hob'
  obtain ⟨b, es, clk, h1, h2, h3, h4, h5⟩ := hob'
  rw [hid] at h1
  have hcur : curOf s.own loc id r = some (loc id) := by unfold curOf; rw [he]; simp [her]
  simp only [Rds, rd] at ha
  obtain ⟨b', hb', rfl⟩ := ha _ hcur
  have hb1 : b ∈ (loc id).blks := by rw [h1]; simp
  rw [h1] at hb'
  simp only [List.cons.injEq, and_true] at hb'
  subst hb'
  have hu : P.underlying t = some (.map kt et) := by unfold tMap at ht; split at ht <;> simp_all
  have hfind := run_findKey (w := w) hko hk es.toList ks hkall h4
  have hlen1 := rdV_length _ _ h4
  have hlen2 := rdV_length _ _ h5
  simp only [List.length_map, Array.length_toList] at hlen1 hlen2
  have hblt := (Array.getElem?_eq_some_iff.1 h2).1
  have hmxo := (mem_mxE hmem).2
  rw [hob] at hmxo
  simp only [mxO] at hmxo
  -- the world behind it
  have main : ∀ (es' : Array MapEntry) (clk' : Nat), bornOK es' clk' → rdV (cu s loc) (hm s loc B.M0) w.heap (updK ks k) (es'.toList.map (·.key)) → rdV (cu s loc) (hm s loc B.M0) w.heap (updV ks vs k x) (es'.toList.map (·.val)) →
      Rel B ⟨s.slots, upE s.own id r (.map (updK ks k) (updV ks vs k x))⟩ a { w with heap := w.heap.setIfInBounds b (.map es' clk') } (upL loc id (loc id)) := by
    intro es' clk' hb hk1 hv1
    have hw : Upd (hotOf s.own loc) w { w with heap := w.heap.setIfInBounds b (.map es' clk') } := by
      refine ⟨rfl, rfl, rfl, Nat.le_refl _, by simp, fun b0 _ hn0 => ?_⟩
      have hne : b ≠ b0 := fun h => hn0 (h ▸ mem_hot hmem (by rw [hid]; exact hb1))
      simp [Array.getElem?_setIfInBounds, hne]
    have hL : ∀ b0, b0 ∈ (loc id).blks → b0 < ({ w with heap := w.heap.setIfInBounds b (.map es' clk') } : World).heap.size ∧ ((∃ e ∈ s.own, e.id = id ∧ b0 ∈ (loc id).blks) ∨ w.heap.size ≤ b0) := by
      intro b0 hb0
      refine ⟨?_, .inl ⟨e, hmem, hid, hb0⟩⟩
      rw [h1] at hb0
      simp only [List.mem_singleton] at hb0
      subst hb0
      simpa using hblt
    have W := R.weakUp (obj := .map (updK ks k) (updV ks vs k x)) hn hw hL (.inr hcur)
    unfold lim at hn
    refine R.up (hLn := by rw [h1]; simp) (dst := none) (v := Go.undef) (d := .any) (n := n) (by unfold lim; exact hn) (fun i hi => by simp at hi) hw ?_ hL (.inr hcur) ?_ (by simp [rd])
    · intro b0 hb0 hne
      have hne' : b ≠ b0 := fun h => hne e hmem hid (by rw [← h]; exact hb1)
      simp [Array.getElem?_setIfInBounds, hne']
    · refine ⟨b, es', clk', h1, by simp [Array.getElem?_setIfInBounds, hblt], hb, rdV_weak W _ _ ?_ hk1, rdV_weak W _ _ ?_ hv1⟩
      · have := mxL_updK ks k; omega
      · have := mxL_updV ks vs k x; omega
  simp only [Instr.mapUpdate, Sem.run_bind, run_underlying hu, Result.andThen_ok, MapKept.run_getObj_map h2, run_checkKey' hko hk, hfind]
  cases hq : lookI ks k with
  | none =>
    simp only [Option.map_none]
    refine ⟨_, MapKept.run_setObj_map _ h2, main _ _ ?_ ?_ ?_⟩
    · obtain ⟨g1, g2⟩ := h3
      refine ⟨?_, ?_⟩
      · simp only [Array.toList_push, List.map_append, List.map_cons, List.map_nil]
        rw [List.nodup_append]
        refine ⟨g1, by simp, ?_⟩
        intro c hc c' hc' hcc
        simp only [List.mem_singleton] at hc'
        obtain ⟨e', he', rfl⟩ := List.mem_map.1 hc
        have := g2 e' he'
        omega
      · intro e' he'
        simp only [Array.toList_push, List.mem_append, List.mem_singleton] at he'
        rcases he' with he' | rfl
        · have := g2 e' he'; omega
        · simp
    · unfold updK
      rw [hq]
      simp only [Array.toList_push, List.map_append, List.map_cons, List.map_nil]
      exact rdV_append _ _ _ _ h4 (by simp only [rdV]; exact ⟨kv, [], rfl, hk, rfl⟩)
    · unfold updV
      rw [hq]
      simp only [Array.toList_push, List.map_append, List.map_cons, List.map_nil]
      exact rdV_append _ _ _ _ h5 (by simp only [rdV]; exact ⟨xv, [], rfl, hx, rfl⟩)
  | some j =>
    simp only [Option.map_some]
    obtain ⟨k0, hk0, heq⟩ := lookI_eq hq
    obtain ⟨v0, hv0, hr0⟩ := rdV_at _ _ j k0 h4 hk0
    have hjlt : j < es.size := by
      have := (List.getElem?_eq_some_iff.1 hk0).1
      omega
    have hkey : (es[j]?).map (·.key) = some v0 := by
      rw [List.getElem?_map] at hv0
      simpa using hv0
    obtain ⟨rfl, hsb⟩ := key_same hko (List.all_eq_true.1 hkall k0 (List.mem_of_getElem? hk0)) heq hk hr0
    simp only [hkey, Option.getD_some, Instr.keyThatStays, hsb, if_true, Sem.run_pure, Result.andThen_ok]
    refine ⟨_, MapKept.run_setObj_map _ h2, main _ _ ?_ ?_ ?_⟩
    · obtain ⟨g1, g2⟩ := h3
      have hborn : (es.modify j fun e => { e with key := v0, val := xv }).toList.map (·.born) = es.toList.map (·.born) := by
        apply List.ext_getElem?
        intro i
        simp only [List.getElem?_map, Array.getElem?_toList, Array.getElem?_modify]
        split
        · cases es[i]? <;> simp
        · rfl
      refine ⟨by rw [hborn]; exact g1, ?_⟩
      intro e' he'
      have : e'.born ∈ (es.modify j fun e => { e with key := v0, val := xv }).toList.map (·.born) := List.mem_map_of_mem (f := (·.born)) he'
      rw [hborn] at this
      obtain ⟨e0, he0, hb0⟩ := List.mem_map.1 this
      rw [← hb0]; exact g2 e0 he0
    · unfold updK
      rw [hq]
      have hkeys : (es.modify j fun e => { e with key := v0, val := xv }).toList.map (·.key) = es.toList.map (·.key) := by
        apply List.ext_getElem?
        intro i
        simp only [List.getElem?_map, Array.getElem?_toList, Array.getElem?_modify]
        split
        · rename_i hij
          subst hij
          rw [hkey]
          cases hes : es[j]? <;> simp_all
        · rfl
      rw [hkeys]; exact h4
    · unfold updV
      rw [hq]
      have hvals : (es.modify j fun e => { e with key := v0, val := xv }).toList.map (·.val) = (es.toList.map (·.val)).set j xv := by
        apply List.ext_getElem?
        intro i
        simp only [List.getElem?_map, Array.getElem?_toList, Array.getElem?_modify, List.getElem?_set, List.length_map, Array.length_toList]
        split
        · rename_i hij
          subst hij
          simp [hjlt]
        · rfl
      rw [hvals]
      exact rdV_set h5 hx
end
end Go.Dm
