/- Parts of a proof, laid together: EvFl, EvD, EvF. -/
import Derived.Test.YtedjakmhhlilaaaGreatqGx16
import Derived.Test.YtedjakmhhlilaaaGreatqGx17
set_option linter.unusedSimpArgs false
set_option linter.unusedVariables false
set_option linter.unusedSectionVars false
section
namespace Go.Dm
variable [DMode]
section
variable {P : Program} {B : Base} {s : DS}
def BackF (B B' : Base) (t b : Nat) (cs : List DVal) : Prop :=
 B'.nt = B.nt ∧ B'.N = B.N ∧ B'.ro = B.ro ∧ ∀ s' a' w' loc' i r, lim B s' ≤ r → Rel B' s' a' w' loc' → a'.tmps.getD t Go.undef = .pointer (some ⟨b, 0, none⟩) →
  ∃ loc'', Rel B ⟨(t, .bx i r 0) :: s'.slots, upE s'.own i r (.box cs)⟩ a' w' loc''
theorem Rel.hideF {X : DS} {a : Act} {w : World} {loc : Nat → Loc} {t ty : Nat} {cs : List DVal} {us : List Value} (R : Rel B X a w loc) (ht : t < B.nt) (hX : getS X.slots t = .any)
  (hus : ∀ cur M h, rdV cur M h cs us) (hmx : mxL cs = 0) (hone : ∀ u ∈ us, u.oneCell' = true) :
  ∃ B', BackF B B' t w.heap.size cs ∧ Rel B' X (a.put (some t) (.pointer (some ⟨w.heap.size, 0, none⟩))) (w.alloc (.cells us.toArray ty)) loc := by
 have hnb : ∀ b ∈ hotOf X.own loc ++ B.M0, b < w.heap.size := R.st.lt
 have hsz1 : (w.alloc (.cells us.toArray ty)).heap.size = w.heap.size + 1 := by show (w.heap.push _).size = _; simp
 have hget : ∀ b, b < w.heap.size → (w.alloc (.cells us.toArray ty)).heap[b]? = w.heap[b]? := fun b hb => by
  show (w.heap.push _)[b]? = _
  rw [Array.getElem?_push, if_neg (by omega)]
 have hU : Upd (hotOf X.own loc) w (w.alloc (.cells us.toArray ty)) := Upd.alloc _ _ _
 let B' : Base := ⟨X.own, loc, w.heap.size :: B.M0, B.N, w.alloc (.cells us.toArray ty), B.nt, B.ro, B.nd, (by have h1 := B.hnd; have h2 := R.upd.size; omega), B.idle⟩
 have W : Weak (curOf X.own loc) (curOf X.own loc) (hotOf X.own loc ++ B.M0) (hotOf X.own loc ++ w.heap.size :: B.M0) w.heap (w.alloc (.cells us.toArray ty)).heap (lim B X) := by
  refine ⟨fun _ _ _ _ h => h, fun b o _ _ ho => ?_, fun b o hb _ ho hm => ?_⟩
  ·have hlt := (Array.getElem?_eq_some_iff.1 ho).1
   rw [hget b hlt]; exact ho
  ·have hlt := (Array.getElem?_eq_some_iff.1 ho).1
   rcases List.mem_append.1 hm with h | h
   ·exact hb (List.mem_append_left _ h)
   ·rcases List.mem_cons.1 h with h | h
    ·omega
    ·exact hb (List.mem_append_right _ h)
 have hlm : ∀ i, mx (getS X.slots i) ≤ lim B X := fun i => Nat.le_trans (mx_getS _ i) (by unfold lim; omega)
 refine ⟨B', ⟨rfl, rfl, rfl, ?_⟩, ?_⟩
 ·intro s' a' w' loc' i0 r0 hr0 R' hv
  have hlimE : lim B' s' = lim B s' := rfl
  have hbM : w.heap.size ∉ B.M0 := fun h => by have := hnb _ (List.mem_append_right _ h); omega
  have hbH : w.heap.size ∉ hotOf X.own loc := fun h => by have := hnb _ (List.mem_append_left _ h); omega
  have hbS : w.heap.size ∉ hotOf s'.own loc' := fun h => R'.st.ap _ h List.mem_cons_self
  have hcell : w'.heap[w.heap.size]? = some (.cells us.toArray ty (0, 0)) := by
   rw [R'.upd.blk w.heap.size (by show _ < (w.alloc _).heap.size; omega) hbH]
   exact heap_alloc_new w _
  have hids : ∀ e ∈ upE s'.own i0 r0 (.box cs), (e = ⟨i0, r0, .box cs⟩) ∨ (e ∈ s'.own ∧ e.id ≠ i0) := fun e he => by
   rcases List.mem_cons.1 he with h | h
   ·exact .inl h
   ·exact .inr (mem_delE.1 h)
  have hhot : ∀ b ∈ hotOf (upE s'.own i0 r0 (.box cs)) (upL loc' i0 ⟨[w.heap.size], Go.undef⟩), b = w.heap.size ∨ b ∈ hotOf s'.own loc' := by
   intro b hb
   obtain ⟨e, he, h1⟩ := List.mem_flatMap.1 hb
   rcases hids e he with rfl | ⟨h2, h3⟩
   ·simp only [upL, if_true, List.mem_singleton] at h1; exact .inl h1
   ·simp only [upL, if_neg h3] at h1; exact .inr (mem_hot h2 h1)
  have W2 : Weak (curOf s'.own loc') (curOf (upE s'.own i0 r0 (.box cs)) (upL loc' i0 ⟨[w.heap.size], Go.undef⟩)) (hotOf s'.own loc' ++ w.heap.size :: B.M0) (hotOf (upE s'.own i0 r0 (.box cs)) (upL loc' i0 ⟨[w.heap.size], Go.undef⟩) ++ B.M0) w'.heap w'.heap r0 := by
   refine ⟨fun id r l hr hl => ?_, fun b o _ _ ho => ho, fun b o hb _ _ hm => ?_⟩
   ·obtain ⟨e, he, rfl, rfl, rfl⟩ := curOf_some hl
    rcases hids e he with rfl | ⟨h2, h3⟩
    ·simp at hr
    ·simp only [upL, if_neg h3]
     exact curOf_self R'.st.nd h2
   ·rcases List.mem_append.1 hm with h | h
    ·rcases hhot b h with rfl | h
     ·exact hb (List.mem_append_right _ List.mem_cons_self)
     ·exact hb (List.mem_append_left _ h)
    ·exact hb (List.mem_append_right _ (List.mem_cons_of_mem _ h))
  refine ⟨upL loc' i0 ⟨[w.heap.size], Go.undef⟩, ⟨?_, ?_, ?_, ?_, ?_⟩, ?_, ?_, ?_, ?_, R'.nt, ?_⟩
  ·simp only [upE, List.map_cons, List.nodup_cons]
   refine ⟨fun hm => ?_, nodup_delE R'.st.nd⟩
   obtain ⟨e, he, h1⟩ := List.mem_map.1 hm
   exact (mem_delE.1 he).2 h1
  ·unfold upE
   rw [hot_cons, hot_delE, List.nodup_append]
   simp only [upL, if_true]
   refine ⟨by simp, hot_nodup_sub R'.st.bl _ (nodup_delE R'.st.nd) (fun e he => (mem_delE.1 he).1), ?_⟩
   intro b hb b' hb' hbb
   subst hbb
   obtain ⟨e, he, hne, h1⟩ := hot_sub hb'
   simp only [List.mem_singleton] at hb
   subst hb
   exact hbS (mem_hot he h1)
  ·intro b hb hm
   rcases hhot b hb with rfl | h
   ·exact hbM hm
   ·exact R'.st.ap b h (List.mem_cons_of_mem _ hm)
  ·intro b hb
   rcases List.mem_append.1 hb with h | h
   ·rcases hhot b h with rfl | h
    ·exact (Array.getElem?_eq_some_iff.1 hcell).1
    ·exact R'.st.lt b (List.mem_append_left _ h)
   ·exact R'.st.lt b (List.mem_append_right _ (List.mem_cons_of_mem _ h))
  ·intro e he
   rcases hids e he with rfl | ⟨h2, h3⟩
   ·refine ⟨w.heap.size, us.toArray, ty, by simp [upL], hcell, by have := rdV_length _ _ (hus (fun _ _ => none) [] #[]); simpa using this, ?_⟩
    have := rdC_of cs us [] [] (hus (curOf (upE s'.own i0 r0 (.box cs)) (upL loc' i0 ⟨[w.heap.size], Go.undef⟩)) (hotOf (upE s'.own i0 r0 (.box cs)) (upL loc' i0 ⟨[w.heap.size], Go.undef⟩) ++ B.M0) w'.heap) hone
    simpa using this
   ·have hk := R'.st.ok e h2
    have hl : upL loc' i0 ⟨[w.heap.size], Go.undef⟩ e.id = loc' e.id := by simp only [upL, if_neg h3]
    rw [hl]
    refine ObjOK_weak W2 ?_ (fun _ _ _ ho => ho) hk
    have := (mem_mxE h2).2
    unfold lim at hr0
    omega
  ·exact (R.upd.trans (Upd.alloc [] w _) (by simp)).trans R'.upd (fun x hx => R.new x hx)
  ·intro b hb
   rcases hhot b hb with rfl | h
   ·exact .inr R.upd.size
   ·rcases R'.new b h with h | h
    ·exact R.new b h
    ·right
     have h1 : w.heap.size + 1 ≤ b := by rw [← hsz1]; exact h
     have := R.upd.size
     omega
  ·intro e he hlt
   rcases hids e he with rfl | ⟨h2, h3⟩
   ·simp only at hlt
    unfold lim at hr0
    have hlt : r0 < B.N := hlt
    omega
   ·simp only [upL, if_neg h3]
    obtain ⟨e2, k1, k2, k3, k4⟩ := curOf_some (R'.ver e h2 hlt)
    have := R.ver e2 k1 (by omega)
    rw [k2, k3] at this
    rw [this, k4]
  ·intro i
   simp only [getS]
   split
   ·rename_i hi
    subst hi
    simp only [rd]
    intro l hl
    rw [curOf_up] at hl
    simp only [Option.some.injEq] at hl
    subst hl
    exact ⟨_, rfl, hv⟩
   ·exact rd_weak W2 _ _ (Nat.le_trans (mx_getS _ i) (by unfold lim at hr0; omega)) (R'.sl i)
  ·obtain ⟨rs, g1, g2, g3, g4⟩ := R'.df
   refine ⟨rs, g1, g2, fun r hr => ?_, g4⟩
   obtain ⟨k1, k2, k3⟩ := g3 r hr
   refine ⟨k1, k2, fun hm => k3 ?_⟩
   rcases List.mem_append.1 hm with h | h
   ·rcases hhot r h with rfl | h
    ·exact List.mem_append_right _ List.mem_cons_self
    ·exact List.mem_append_left _ h
   ·exact List.mem_append_right _ (List.mem_cons_of_mem _ h)
 ·refine ⟨⟨R.st.nd, R.st.bl, ?_, ?_, ?_⟩, Upd.refl _ _, fun b hb => .inl hb, fun e he _ => curOf_self R.st.nd he, ?_, by simpa [Act.put] using R.nt, ?_⟩
  ·intro b hb hm
   rcases List.mem_cons.1 hm with h | h
   ·have := hnb b (List.mem_append_left _ hb); omega
   ·exact R.st.ap b hb h
  ·intro b hb
   rw [hsz1]
   rcases List.mem_append.1 hb with h | h
   ·have := hnb b (List.mem_append_left _ h); omega
   ·rcases List.mem_cons.1 h with h | h
    ·omega
    ·have := hnb b (List.mem_append_right _ h); omega
  ·intro e he
   have := (mem_mxE he).2
   exact ObjOK_weak W (by unfold lim; omega) (fun b o _ ho => by rw [hget b (Array.getElem?_eq_some_iff.1 ho).1]; exact ho) (R.st.ok e he)
  ·intro i
   by_cases hi : i = t
   ·subst hi
    rw [hX]
    simp only [rd]
   ·have h1 : (a.put (some t) (.pointer (some ⟨w.heap.size, 0, none⟩))).tmps.getD i Go.undef = a.tmps.getD i Go.undef := by
     show (a.tmps.setIfInBounds t _).getD i Go.undef = _
     rw [Array.getD_eq_getD_getElem?, Array.getD_eq_getD_getElem?, Array.getElem?_setIfInBounds_ne (Ne.symm hi)]
    rw [h1]
    exact rd_weak W _ _ (hlm i) (R.sl i)
  ·refine R.df.keep (B := B) (M' := hotOf X.own loc ++ w.heap.size :: B.M0) rfl hU (fun x hx => List.mem_append_left _ hx) fun b hb => ?_
   rcases List.mem_append.1 hb with h | h
   ·exact .inl (List.mem_append_left _ h)
   ·rcases List.mem_cons.1 h with h | h
    ·exact .inr (by omega)
    ·exact .inl (List.mem_append_right _ h)
theorem any_floatF {ds : List DVal} {owns : Nat → List Ent} {vers : Nat → Nat} {t ty : Nat} {ops ops3 : Array Oper} {z o : Oper} {cs : List DVal} {Q : Exit → DS → Prop} (h3 : ops3 = (ops.push z).push o) (hrun : RunF P B.nt ops s ds owns vers) (hfl : FloatF P ops s ds owns) (hN : B.N ≤ vers 0)
  (hz : z.op = .alloc ty ∧ z.dst = some t ∧ z.guard = none ∧ z.after = #[]) (ho : o.guard = none) (lt : Nat) (hlast : lastOK lt o (ops.size + 1) = true) (hl0 : lt ≠ ops.size) (hlate : ∀ p, ops[lt]? = some p → LateP ops3 p o) (hgd : gdOK ops = true)
  (ht : t < B.nt) (hdst : ops.toList.all (fun o => decide (o.dst ≠ some t)) = true) (hsl : getS s.slots t = .any) (hcs : tZero P ty = some cs) (hone : cs.all (oneO []) = true)
  (hfin : ∀ (a : Act) (w : World) (loc : Nat → Loc) (Q' : Exit → Act → World → Prop), Rel B ⟨(t, .bx (vers ops.size) (vers ops.size) 0) :: lexS s.slots (ops.toList.zip ds), upE (owns ops.size) (vers ops.size) (vers ops.size) (.box cs)⟩ a w loc → o.wpIn (wd B.ro) 0 P a w (fun a' w' => QQ B Q .normal a' w') Q') {a : Act} {w : World} {loc : Nat → Loc} (R : Rel B s a w loc) : wpAnyIn (wd B.ro) 0 P .any ops3 (QQ B Q) ops3.size (Array.replicate ops3.size false) a w.drew := by
 subst h3
 obtain ⟨Inv, i1, i2, i3, i4⟩ := region_invF hrun hfl
 have hdst' : ∀ o ∈ ops.toList, o.dst ≠ some t := fun o ho => by simpa using List.all_eq_true.1 hdst o ho
 have spec := drawOK_spec hfl.dr
 have hsz3 : ((ops.push z).push o).size = ops.size + 2 := by simp
 have at_lo : ∀ k, k < ops.size → ((ops.push z).push o)[k]? = ops[k]? := fun k hk => by
  rw [Array.getElem?_push, if_neg (by simp; omega), Array.getElem?_push, if_neg (by omega)]
 have at_z : ((ops.push z).push o)[ops.size]? = some z := by
  rw [Array.getElem?_push, if_neg (by simp), Array.getElem?_push, if_pos rfl]
 have at_o : ((ops.push z).push o)[ops.size + 1]? = some o := by
  rw [Array.getElem?_push, if_pos (by simp)]
 have spec2 : (∀ k, k < ops.size + 1 → k ≠ lt → ∃ e ∈ o.after, Region.binds .any e = true ∧ e.on = k) ∧ ∀ e ∈ o.after, e.on < ops.size + 1 := by
  unfold lastOK at hlast
  simp only [Bool.and_eq_true, List.all_eq_true, List.mem_range, List.any_eq_true, Bool.or_eq_true, beq_iff_eq, decide_eq_true_eq] at hlast
  exact ⟨fun k hk hkl => by obtain ⟨e, he, h1, h2⟩ := (hlast.1 k hk).resolve_left hkl; exact ⟨e, by simpa using he, h1, h2⟩, fun e he => hlast.2 e (by simpa using he)⟩
 let lo : Array Bool → Array Bool := fun l => Array.ofFn (n := ops.size) fun i => l.getD i.1 false
 have lo_get : ∀ (l : Array Bool) k d, k < ops.size → (lo l).getD k d = l.getD k false := by
  intro l k d hk
  rw [Array.getD_eq_getD_getElem?]
  simp [lo, hk]
 have lo_set : ∀ (l : Array Bool) i, i < ops.size → l.size = ops.size + 2 → lo (l.setIfInBounds i true) = (lo l).setIfInBounds i true := by
  intro l i hi hl
  apply Array.ext
  ·simp [lo]
  ·intro j h1 h2
   rw [Array.getElem_setIfInBounds (by simpa using h2)]
   simp only [lo, Array.getElem_ofFn]
   split
   ·rename_i hij
    subst hij
    rw [Array.getD_eq_getD_getElem?, Array.getElem?_setIfInBounds_self_of_lt (by omega)]
    rfl
   ·rename_i hij
    rw [Array.getD_eq_getD_getElem?, Array.getD_eq_getD_getElem?, Array.getElem?_setIfInBounds_ne hij]
 have lo_set2 : ∀ (l : Array Bool) i, ops.size ≤ i → lo (l.setIfInBounds i true) = lo l := by
  intro l i hi
  apply Array.ext
  ·simp [lo]
  ·intro j h1 h2
   simp only [lo, Array.getElem_ofFn]
   have hj : j < ops.size := by simpa [lo] using h2
   rw [Array.getD_eq_getD_getElem?, Array.getD_eq_getD_getElem?, Array.getElem?_setIfInBounds_ne (by omega)]
 have done : ∀ (fuel : Nat) (listed : Array Bool) (a : Act) (w : World), listed.size = ops.size + 2 → (∀ i, i < ops.size + 2 → listed.getD i false = true) → QQ B Q .normal a w → wpAnyIn (wd B.ro) 0 P .any ((ops.push z).push o) (QQ B Q) fuel listed a w := by
  intro fuel listed a w hsz hall hq
  have hr : Region.ready .any ((ops.push z).push o) listed = [] := by
   rw [List.eq_nil_iff_forall_not_mem]
   intro i hi
   rw [mem_ready] at hi
   obtain ⟨g0, o', ho', _⟩ := hi
   have hlt : i < ops.size + 2 := by have := (Array.getElem?_eq_some_iff.1 ho').1; omega
   have g1 := hall i hlt
   have hi' : i < listed.size := by omega
   simp only [Array.getD_eq_getD_getElem?, Array.getElem?_eq_getElem hi', Option.getD_some] at g0 g1
   rw [g0] at g1; simp at g1
  cases fuel with
  | zero => exact ⟨hr, hq⟩
  | succ fuel => exact ⟨fun _ => hq, fun i hi => by rw [hr] at hi; simp at hi⟩
 have main : ∀ (fuel : Nat) (listed : Array Bool) (a : Act) (w : World), (List.range (ops.size + 2)).countP (fun k => listed.getD k false) + fuel = ops.size + 2 → listed.size = ops.size + 2 → listed.getD (ops.size + 1) false = false →
   ((listed.getD ops.size false = false ∧ Inv B (lo listed) a w) ∨ (listed.getD ops.size false = true ∧ ∃ B' b, BackF B B' t b cs ∧ a.tmps.getD t Go.undef = .pointer (some ⟨b, 0, none⟩) ∧ Inv B' (lo listed) a w)) →
   wpAnyIn (wd B.ro) 0 P .any ((ops.push z).push o) (QQ B Q) fuel listed a w := by
  intro fuel
  induction fuel with
  | zero =>
   intro listed a w hcnt hsz hlst _
   have := (List.countP_eq_length (p := fun k => listed.getD k false) (l := List.range (ops.size + 2))).1 (by simpa using hcnt) (ops.size + 1) (List.mem_range.2 (by omega))
   simp only [hlst] at this
   simp at this
  | succ fuel ih =>
   intro listed a w hcnt hsz hlst hJ
   have hgd1 : ∀ k d, k < ops.size + 2 → listed.getD k d = listed.getD k false := by
    intro k d hk
    have : k < listed.size := by omega
    simp [Array.getD_eq_getD_getElem?, Array.getElem?_eq_getElem this]
   have cnt1 : ∀ i, i < ops.size + 2 → listed.getD i false = false → (List.range (ops.size + 2)).countP (fun k => (listed.setIfInBounds i true).getD k false) + fuel = ops.size + 2 := by
    intro i hi hSi
    have hi' : i < listed.size := by omega
    have hS' : (fun k => (listed.setIfInBounds i true).getD k false) = fun k => if k = i then true else listed.getD k false := by
     funext k
     by_cases hk : k = i
     ·subst hk; simp [hi']
     ·rw [if_neg hk, getD_set_ne false (Ne.symm hk)]
    rw [hS', cnt_set _ i hSi _ hi]; omega
   have low : ∀ i, i < ops.size → (i ∈ Region.ready .any ops (lo listed) ↔ i ∈ Region.ready .any ((ops.push z).push o) listed) := by
    intro i hi
    rw [mem_ready, mem_ready, at_lo i hi, lo_get _ _ _ hi, hgd1 i true (by omega)]
    refine and_congr_right fun _ => exists_congr fun o' => and_congr_right fun ho' => forall_congr' fun e => forall_congr' fun he => forall_congr' fun hb => ?_
    have := spec.acy i o' ho' e he hb
    rw [lo_get _ _ _ (by omega)]
   obtain ⟨B1, hB1, hI1⟩ : ∃ B1, (B1.nt = B.nt ∧ B1.N = B.N ∧ B1.ro = B.ro) ∧ Inv B1 (lo listed) a w := by
    rcases hJ with ⟨_, hI⟩ | ⟨_, B', b, hB, _, hI⟩
    ·exact ⟨B, ⟨rfl, rfl, rfl⟩, hI⟩
    ·exact ⟨B', ⟨hB.1, hB.2.1, hB.2.2.1⟩, hI⟩
   obtain ⟨hsl1, h5, h6⟩ := i2 _ _ _ _ hI1
   refine ⟨fun hr => ?_, fun i hi => ?_⟩
   ·exfalso
    have h7 : Region.ready .any ops (lo listed) = [] := by
     rw [List.eq_nil_iff_forall_not_mem]
     intro i hi
     have hlt : i < ops.size := by
      rw [mem_ready] at hi
      obtain ⟨_, o', ho', _⟩ := hi
      exact (Array.getElem?_eq_some_iff.1 ho').1
     have := (low i hlt).1 hi
     rw [hr] at this
     simp at this
    have h8 := h5 h7
    rcases hJ with ⟨hzl, _⟩ | ⟨hzl, _⟩
    ·have : ops.size ∈ Region.ready .any ((ops.push z).push o) listed := by
      rw [mem_ready, hgd1 _ true (by omega)]
      exact ⟨hzl, z, at_z, fun e he => by rw [hz.2.2.2] at he; simp at he⟩
     rw [hr] at this
     simp at this
    ·have : ops.size + 1 ∈ Region.ready .any ((ops.push z).push o) listed := by
      rw [mem_ready, hgd1 _ true (by omega)]
      refine ⟨hlst, o, at_o, fun e he _ => ?_⟩
      have := spec2.2 e he
      by_cases he2 : e.on = ops.size
      ·rw [he2]; exact hzl
      ·rw [← lo_get listed e.on false (by omega)]; exact h8 e.on (by omega)
     rw [hr] at this
     simp at this
   ·have hi0 := hi
    rw [mem_ready] at hi0
    obtain ⟨g0, o', ho', hpre⟩ := hi0
    have hlt : i < ops.size + 2 := by have := (Array.getElem?_eq_some_iff.1 ho').1; omega
    rw [hgd1 i true hlt] at g0
    have hset : ∀ k, k ≠ i → (listed.setIfInBounds i true).getD k false = listed.getD k false := fun k hk => getD_set_ne false (Ne.symm hk)
    by_cases hin : i < ops.size
    ·have hio : ops[i]? = some o' := by rw [← at_lo i hin]; exact ho'
     have hdn : o'.dst ≠ some t := hdst' o' (by simpa using Array.mem_of_getElem? hio)
     have hy : Region.wanted o' (yielded ((ops.push z).push o) a.tmps) = Region.wanted o' (yielded ops a.tmps) := by
      unfold Region.wanted
      cases hg : o'.guard with
      | none => rfl
      | some jw =>
       obtain ⟨j, want⟩ := jw
       have hj : j < ops.size := by
        have h9 := List.all_eq_true.1 hgd o' (by simpa using Array.mem_of_getElem? hio)
        rw [hg] at h9
        simpa using h9
       simp only [yielded, at_lo j hj]
     have conv : ∀ {K : Act → World → Prop}, wpOpIn (wd B.ro) 0 P ops (QQ B Q) i K a w → wpOpIn (wd B.ro) 0 P ((ops.push z).push o) (QQ B Q) i K a w := by
      intro K hh
      unfold wpOpIn at hh ⊢
      rw [hio] at hh
      rw [ho']
      simp only at hh ⊢
      rw [hy]
      exact hh
     have hsz' : (listed.setIfInBounds i true).size = ops.size + 2 := by simpa using hsz
     have hl' : (listed.setIfInBounds i true).getD (ops.size + 1) false = false := by rw [hset _ (by omega)]; exact hlst
     rcases hJ with ⟨hzl, hI⟩ | ⟨hzl, B', b, hB, hv, hI⟩
     ·refine conv (i3 B (lo listed) a w i _ _ rfl hN hI ((low i hin).2 hi) fun a' w' hI' => ?_)
      exact ih _ a' w' (cnt1 i hlt g0) hsz' hl' (.inl ⟨by rw [hset _ (by omega)]; exact hzl, by rw [lo_set _ i hin hsz]; exact hI'⟩)
     ·have hw := i3 B' (lo listed) a w i (Inv B' ((lo listed).setIfInBounds i true)) (QQ B Q) hB.1 (by rw [hB.2.1]; exact hN) hI ((low i hin).2 hi) fun _ _ h => h
      rw [hB.2.2.1] at hw
      refine conv ?_
      unfold wpOpIn at hw ⊢
      rw [hio] at hw ⊢
      simp only at hw ⊢
      have nx : ∀ a' w', Inv B' ((lo listed).setIfInBounds i true) a' w' ∧ a'.tmps.getD t Go.undef = .pointer (some ⟨b, 0, none⟩) → wpAnyIn (wd B.ro) 0 P .any ((ops.push z).push o) (QQ B Q) fuel (listed.setIfInBounds i true) a' w' := by
       rintro a' w' ⟨hI', hv'⟩
       exact ih _ a' w' (cnt1 i hlt g0) hsz' hl' (.inr ⟨by rw [hset _ (by omega)]; exact hzl, B', b, hB, hv', by rw [lo_set _ i hin hsz]; exact hI'⟩)
      split
      ·rename_i hw1
       rw [if_pos hw1] at hw
       exact Oper.wpIn_mono nx (wpIn_keep hdn hv hw)
      ·rename_i hw1
       rw [if_neg hw1] at hw
       refine ⟨hw.1, nx _ _ ⟨hw.2, ?_⟩⟩
       unfold Act.put
       cases hd : o'.dst with
       | none => exact hv
       | some i' =>
        have hi' : i' ≠ t := fun e => hdn (by rw [hd, e])
        show (a.tmps.setIfInBounds i' _).getD t Go.undef = _
        rw [Array.getD_eq_getD_getElem?] at hv ⊢
        rw [Array.getElem?_setIfInBounds_ne hi']
        exact hv
    ·by_cases hiz : i = ops.size
     ·subst hiz
      rw [at_z] at ho'
      simp only [Option.some.injEq] at ho'
      subst ho'
      rcases hJ with ⟨_, hI⟩ | ⟨hzl, _⟩
      ·obtain ⟨dst, op, type, pos, after, guard⟩ := z
       obtain ⟨hz1, hz2, hz3, hz4⟩ := hz
       simp only at hz1 hz2 hz3 hz4
       subst hz1 hz2 hz3 hz4
       unfold wpOpIn
       rw [at_z]
       simp only
       rw [if_pos (by simp [Region.wanted])]
       obtain ⟨us, u1, u2, u3, u4⟩ := run_allocZ (a := a) (w := w) (i := t) (type := type) (pos := pos) (after := #[]) (guard := none) hcs hone
       refine wp_val (fun c hc => by cases hc) u4 ?_
       obtain ⟨B', ⟨hB', hv'⟩, hI'⟩ := i4 B (fun B' => BackF B B' t w.heap.size cs ∧ (a.put (some t) (.pointer (some ⟨w.heap.size, 0, none⟩))).tmps.getD t Go.undef = .pointer (some ⟨w.heap.size, 0, none⟩)) (lo listed) a w (a.put (some t) (.pointer (some ⟨w.heap.size, 0, none⟩))) (w.alloc (.cells us.toArray ty)) t hI hdst' (fun X loc hX RX => by
        obtain ⟨B', b1, b2⟩ := RX.hideF (ty := ty) ht (by rw [hX]; exact hsl) u1 u2 u3
        refine ⟨B', ⟨b1, ?_⟩, b2⟩
        show (a.tmps.setIfInBounds t _).getD t Go.undef = _
        rw [Array.getD_eq_getD_getElem?, Array.getElem?_setIfInBounds_self_of_lt (by rw [RX.nt]; exact ht)]
        rfl)
       refine ih _ _ _ (cnt1 _ hlt g0) (by simpa using hsz) (by rw [hset _ (by omega)]; exact hlst) (.inr ⟨?_, B', _, hB', hv', by rw [lo_set2 _ _ (Nat.le_refl _)]; exact hI'⟩)
       rw [Array.getD_eq_getD_getElem?, Array.getElem?_setIfInBounds_self_of_lt (by omega)]
       rfl
      ·rw [hzl] at g0; simp at g0
     ·have hil : i = ops.size + 1 := by omega
      subst hil
      rw [at_o] at ho'
      simp only [Option.some.injEq] at ho'
      subst ho'
      have hall : ∀ k, k < ops.size + 1 → k ≠ lt → listed.getD k false = true := by
       intro k hk hkl
       obtain ⟨e, he, hb, rfl⟩ := spec2.1 k hk hkl
       exact hpre e he hb
      rcases hJ with ⟨hzl, _⟩ | ⟨_, B', b, hB, hv, hI⟩
      ·rw [hall _ (by omega) (Ne.symm hl0)] at hzl; simp at hzl
      ·unfold wpOpIn
       rw [at_o]
       simp only
       rw [if_pos (by simp [Region.wanted, ho])]
       have fin : ∀ (a : Act) (w : World) l, Inv B' l a w → (∀ k, k < ops.size → l.getD k false = true) → a.tmps.getD t Go.undef = .pointer (some ⟨b, 0, none⟩) → ∀ Q', o.wpIn (wd B.ro) 0 P a w (fun a' w' => QQ B Q .normal a' w') Q' := by
        intro a w l hI hl hv Q'
        obtain ⟨_, _, h9⟩ := i2 _ _ _ _ hI
        obtain ⟨loc1, R1⟩ := h9 hl
        have hlm : lim B ⟨lexS s.slots (ops.toList.zip ds), owns ops.size⟩ ≤ vers ops.size := by
         obtain ⟨⟨b1, b2⟩, b3⟩ := hrun.bnd ops.size (Nat.le_refl _)
         rw [List.take_of_length_le (by simp [hrun.len])] at b1
         have := b3 0 (Nat.zero_le _)
         unfold lim
         simp only
         omega
        obtain ⟨loc2, R2⟩ := hB.2.2.2 _ a w loc1 (vers ops.size) (vers ops.size) hlm R1 hv
        exact hfin a w loc2 Q' R2
       have setO : (listed.setIfInBounds (ops.size + 1) true).getD (ops.size + 1) false = true := by
        rw [Array.getD_eq_getD_getElem?, Array.getElem?_setIfInBounds_self_of_lt (by omega)]
        rfl
       by_cases hla : ∀ k, k < ops.size → listed.getD k false = true
       ·refine Oper.wpIn_mono (fun a' w' hq => ?_) (fin a w (lo listed) hI (fun k hk => by rw [lo_get _ _ _ hk]; exact hla k hk) hv _)
        refine done fuel _ a' w' (by simpa using hsz) (fun k hk => ?_) hq
        by_cases hk2 : k = ops.size + 1
        ·subst hk2; exact setO
        ·rw [hset k hk2]
         by_cases hk3 : k = ops.size
         ·exact hall k (by omega) (by omega)
         ·exact hla k (by omega)
       ·have hlt1 : lt < ops.size ∧ listed.getD lt false = false := by
         refine Classical.byContradiction fun hn => hla fun k hk => ?_
         by_cases hkl : k = lt
         ·subst hkl
          cases hg : listed.getD k false with
          | true => rfl
          | false => exact absurd ⟨hk, hg⟩ hn
         ·exact hall k (by omega) hkl
        obtain ⟨hl1, hl2⟩ := hlt1
        obtain ⟨p, hp⟩ : ∃ p, ops[lt]? = some p := ⟨ops[lt], Array.getElem?_eq_getElem hl1⟩
        obtain ⟨⟨u, kk, hpe⟩, hpg, hst, hdo, hpa⟩ := hlate p hp
        have hrl : lt ∈ Region.ready .any ops (lo listed) := by
         rw [mem_ready]
         refine ⟨by rw [lo_get _ _ _ hl1]; exact hl2, p, hp, fun e he hb => ?_⟩
         have := spec.acy lt p hp e he hb
         rw [lo_get _ _ _ (by omega)]
         exact hall _ (by omega) (by omega)
        have hw := i3 B' (lo listed) a w lt (Inv B' ((lo listed).setIfInBounds lt true)) (fun _ _ _ => False) hB.1 (by rw [hB.2.1]; exact hN) hI hrl fun _ _ h => h
        unfold wpOpIn at hw
        rw [hp] at hw
        simp only at hw
        rw [if_pos (by simp [Region.wanted, hpg])] at hw
        obtain ⟨v, hv1, hI2⟩ := ext_out hpe hw
        have hdt : p.dst ≠ some t := hdst' p (by simpa using Array.mem_of_getElem? hp)
        have hv2 : (a.put p.dst v).tmps.getD t Go.undef = .pointer (some ⟨b, 0, none⟩) := by
         unfold Act.put
         cases hd : p.dst with
         | none => exact hv
         | some i' =>
          have hi' : i' ≠ t := fun e => hdt (by rw [hd, e])
          show (a.tmps.setIfInBounds i' _).getD t Go.undef = _
          rw [Array.getD_eq_getD_getElem?] at hv ⊢
          rw [Array.getElem?_setIfInBounds_ne hi']
          exact hv
        have hall2 : ∀ k, k < ops.size → ((lo listed).setIfInBounds lt true).getD k false = true := by
         intro k hk
         rw [← lo_set _ _ hl1 hsz, lo_get _ _ _ hk]
         by_cases hkl : k = lt
         ·subst hkl
          rw [Array.getD_eq_getD_getElem?, Array.getElem?_setIfInBounds_self_of_lt (by omega)]
          rfl
         ·rw [getD_set_ne false (Ne.symm hkl)]; exact hall k (by omega) hkl
        refine Oper.wpIn_mono (fun a' w' hq => ?_) (store_put (ops := (ops.push z).push o) hst hdo hpa (fin _ w _ hI2 hall2 hv2 _) (QQ B Q))
        obtain ⟨hq1, hq2⟩ := hq
        have hlt3 : lt ∈ Region.ready .any ((ops.push z).push o) (listed.setIfInBounds (ops.size + 1) true) := by
         rw [mem_ready]
         refine ⟨?_, p, by rw [at_lo lt hl1]; exact hp, fun e he hb => ?_⟩
         ·rw [getD_set_ne true (by omega), hgd1 lt true (by omega)]; exact hl2
         ·have := spec.acy lt p hp e he hb
          rw [getD_set_ne false (by omega)]; exact hall _ (by omega) (by omega)
        cases fuel with
        | zero =>
         have h1 := cnt1 _ hlt g0
         have := (List.countP_eq_length (p := fun k => (listed.setIfInBounds (ops.size + 1) true).getD k false) (l := List.range (ops.size + 2))).1 (by simpa using h1) lt (List.mem_range.2 (by omega))
         simp only [getD_set_ne false (show ops.size + 1 ≠ lt by omega), hl2] at this
         simp at this
        | succ fuel =>
         refine ⟨fun hr => by rw [hr] at hlt3; simp at hlt3, fun j hj => ?_⟩
         have hjl : j = lt := by
          refine Classical.byContradiction fun hn => ?_
          rw [mem_ready] at hj
          obtain ⟨j0, oj, hoj, _⟩ := hj
          have hj2 : j < ops.size + 2 := by have := (Array.getElem?_eq_some_iff.1 hoj).1; omega
          by_cases hje : j = ops.size + 1
          ·subst hje
           rw [Array.getD_eq_getD_getElem?, Array.getElem?_setIfInBounds_self_of_lt (by omega)] at j0
           simp at j0
          ·rw [getD_set_ne true (Ne.symm hje), hgd1 j true hj2, hall j (by omega) hn] at j0
           simp at j0
         subst hjl
         unfold wpOpIn
         rw [at_lo j hl1, hp]
         simp only
         rw [if_pos (by simp [Region.wanted, hpg])]
         refine wp_val (fun c hc => by rw [hpe] at hc; cases hc) (hv1 a' w' hq2) ?_
         refine done fuel _ _ w' (by simpa using hsz) (fun k hk => ?_) hq1
         by_cases hk2 : k = j
         ·subst hk2
          rw [Array.getD_eq_getD_getElem?, Array.getElem?_setIfInBounds_self_of_lt (by simp; omega)]
          rfl
         ·rw [getD_set_ne false (Ne.symm hk2)]
          by_cases hk3 : k = ops.size + 1
          ·subst hk3; exact setO
          ·rw [hset k hk3]; exact hall k (by omega) hk2
 have hrep : ∀ k, (Array.replicate (ops.size + 2) false).getD k false = false := by
  intro k
  simp [Array.getD_eq_getD_getElem?, Array.getElem?_replicate]
  split <;> simp
 have hlo : lo (Array.replicate (ops.size + 2) false) = Array.replicate ops.size false := by
  apply Array.ext
  ·simp [lo]
  ·intro j h1 h2
   simp only [lo, Array.getElem_ofFn, hrep, Array.getElem_replicate]
 rw [hsz3]
 refine main (ops.size + 2) _ a _ ?_ (by simp) (hrep _) (.inl ⟨hrep _, by rw [hlo]; exact i1 B rfl a w loc R⟩)
 have : (List.range (ops.size + 2)).countP (fun k => (Array.replicate (ops.size + 2) false).getD k false) = 0 := by
  rw [List.countP_eq_zero]
  intro k _
  rw [hrep]
  simp
 omega
theorem DW_region_floatF {ds : List DVal} {owns : Nat → List Ent} {vers : Nat → Nat} (lt : Nat) {id t ty : Nat} {ops ops3 : Array Oper} {z o : Oper} {cs : List DVal} {Q : Exit → DS → Prop} (hm : P.follows .mixedOrders = true) (h3 : ops3 = (ops.push z).push o) (hrun : RunF P B.nt ops s ds owns vers) (hfl : FloatF P ops s ds owns) (hN : B.N ≤ vers 0)
  (hz : z.op = .alloc ty ∧ z.dst = some t ∧ z.guard = none ∧ z.after = #[]) (ho : o.guard = none) (hlast : lastOK lt o (ops.size + 1) = true) (hl0 : lt ≠ ops.size) (hlate : ∀ p, ops[lt]? = some p → LateP ops3 p o) (hgd : gdOK ops = true)
  (ht : t < B.nt) (hdst : ops.toList.all (fun o => decide (o.dst ≠ some t)) = true) (hsl : getS s.slots t = .any) (hcs : tZero P ty = some cs) (hone : cs.all (oneO []) = true)
  (hfin : ∀ (a : Act) (w : World) (loc : Nat → Loc) (Q' : Exit → Act → World → Prop), Rel B ⟨(t, .bx (vers ops.size) (vers ops.size) 0) :: lexS s.slots (ops.toList.zip ds), upE (owns ops.size) (vers ops.size) (vers ops.size) (.box cs)⟩ a w loc → o.wpIn (wd B.ro) 0 P a w (fun a' w' => QQ B Q .normal a' w') Q') : DW P B (.region id ops3 true) Q s := by
 intro a w loc R
 exact wpIn_region_any hm (any_floatF h3 hrun hfl hN hz ho lt hlast hl0 hlate hgd ht hdst hsl hcs hone hfin R)
theorem DW_region_float2F {ds : List DVal} {owns : Nat → List Ent} {vers : Nat → Nat} (lt : Nat) {id t ty : Nat} {ops ops3 : Array Oper} {z o o2 : Oper} {cs : List DVal} {Q Q1 : Exit → DS → Prop} (hm : P.follows .mixedOrders = true) (h3 : ops3 = (ops.push z).push o) (hrun : RunF P B.nt ops s ds owns vers) (hfl : FloatF P ops s ds owns) (hN : B.N ≤ vers 0)
  (hz : z.op = .alloc ty ∧ z.dst = some t ∧ z.guard = none ∧ z.after = #[]) (ho : o.guard = none) (hlast : lastOK lt o (ops.size + 1) = true) (hl0 : lt ≠ ops.size) (hlate : ∀ p, ops[lt]? = some p → LateP ops3 p o) (hgd : gdOK ops = true)
  (ho2 : o2.guard = none) (hlast2 : lastOK (ops.size + 2) o2 (ops.size + 2) = true)
  (ht : t < B.nt) (hdst : ops.toList.all (fun o => decide (o.dst ≠ some t)) = true) (hsl : getS s.slots t = .any) (hcs : tZero P ty = some cs) (hone : cs.all (oneO []) = true)
  (hfin : ∀ (a : Act) (w : World) (loc : Nat → Loc) (Q' : Exit → Act → World → Prop), Rel B ⟨(t, .bx (vers ops.size) (vers ops.size) 0) :: lexS s.slots (ops.toList.zip ds), upE (owns ops.size) (vers ops.size) (vers ops.size) (.box cs)⟩ a w loc → o.wpIn (wd B.ro) 0 P a w (fun a' w' => QQ B Q1 .normal a' w') Q')
  (hq1 : ∀ e, e ≠ .normal → ∀ s, Q1 e s → Q e s) (hfin2 : ∀ (s1 : DS) (a : Act) (w : World) (loc : Nat → Loc) (Q' : Exit → Act → World → Prop), Q1 .normal s1 → Rel B s1 a w loc → o2.wpIn (wd B.ro) 0 P a w (fun a' w' => QQ B Q .normal a' w') Q') : DW P B (.region id (ops3.push o2) true) Q s := by
 intro a w loc R
 refine wpIn_region_any hm ?_
 have hsz : ops3.size = ops.size + 2 := by rw [h3]; simp
 have spec := drawOK_spec hfl.dr
 have hf := any_floatF (Q := Q1) h3 hrun hfl hN hz ho lt hlast hl0 hlate hgd ht hdst hsl hcs hone hfin R
 have hgd3 : gdOK ops3 = true := by
  unfold gdOK at hgd ⊢
  rw [List.all_eq_true] at hgd ⊢
  intro x hx
  rw [h3] at hx
  simp only [Array.toList_push, List.mem_append, List.mem_singleton] at hx
  rcases hx with (hx | rfl) | rfl
  ·have := hgd x hx
   cases hg : x.guard with
   | none => rfl
   | some jw => rw [hg] at this; simp only [decide_eq_true_eq] at this ⊢; omega
  ·rw [hz.2.2.1]
  ·rw [ho]
 have hacy : ∀ i o', ops3[i]? = some o' → ∀ e ∈ o'.after, Region.binds .any e = true → e.on < i := by
  intro i o' hi e he hb
  rw [h3, Array.getElem?_push, Array.getElem?_push, Array.size_push] at hi
  split at hi
  ·rename_i hi1
   have e1 := Option.some.inj hi
   subst e1
   unfold lastOK at hlast
   simp only [Bool.and_eq_true, List.all_eq_true, decide_eq_true_eq] at hlast
   rw [hi1]
   exact hlast.2 e (by simpa using he)
  ·split at hi
   ·have e1 := Option.some.inj hi
    subst e1
    rw [hz.2.2.2] at he
    simp at he
   ·exact spec.acy i o' hi e he hb
 have hall := anyIn_last (F := wd B.ro) (n := 0) (P := P) (Q1 := QQ B Q1) (Q := QQ B Q) (ops := ops3) (o := o2) (fun a' w' hq => by
  obtain ⟨s1, loc1, hK, R1⟩ := hq
  unfold wpOpIn
  rw [Array.getElem?_push, if_pos rfl]
  simp only
  rw [if_pos (by simp [Region.wanted, ho2])]
  exact hfin2 s1 a' w' loc1 _ hK R1) (fun e he a' w' hq => by
  obtain ⟨s1, loc1, hK, R1⟩ := hq
  exact ⟨s1, loc1, hq1 e he s1 hK, R1⟩) (by rw [hsz]; exact hlast2) hgd3 hacy ops3.size (Array.replicate ops3.size false) a w.drew (by
   have : (List.range ops3.size).countP (fun k => (Array.replicate ops3.size false).getD k false) = 0 := by
    rw [List.countP_eq_zero]
    intro k _
    simp [Array.getD_eq_getD_getElem?, Array.getElem?_replicate]
    split <;> simp
   omega) (by simp) hf
 have hsz2 : (ops3.push o2).size = ops3.size + 1 := by simp
 rw [hsz2, Array.replicate_succ]
 exact hall
end
def pureO (o : Oper) : Bool := match o.op with
 | .move _ => true
 | .assign _ => true
 | .pick _ _ _ => true
 | .index _ _ _ => true
 | .field _ _ _ => true
 | .unOp _ _ _ => true
 | .convert _ _ _ => true
 | .extract _ _ => true
 | .makeFunc _ _ _ => true
 | _ => false
def ordB (m : List Nat) (i k : Nat) : Bool := if k < i then (m.getD i 0).testBit k else (m.getD k 0).testBit i
def pairsF (ops : Array Oper) : List (Nat × Nat) := ops.toList.zipIdx.flatMap fun p => if isEffF p.1 || pureO p.1 then [] else
 (ops.toList.zipIdx.filter fun q => isEffF q.1 && !ordB (masks ops.toList []) p.2 q.2).map fun q => (p.2, q.2)
def totB (ops : Array Oper) : Bool := ops.toList.zipIdx.all fun p => !isEffF p.1 || ops.toList.zipIdx.all fun q => !isEffF q.1 || p.2 == q.2 || ordB (masks ops.toList []) p.2 q.2
section
variable (P : Program)
end
section
variable {P : Program}
theorem NeuF.pure {own own' : List Ent} {o : Oper} {e : Operand → DVal} {d : DVal} (h : pureO o = true) (hn : NeuF P own o e d) : NeuF P own' o e d := by
 unfold pureO at h
 unfold NeuF at hn ⊢
 split at h <;> rename_i ho <;> first
  | (rw [ho] at hn ⊢; exact hn)
  | (simp at h)
theorem OpOKF.pure {ops : Array Oper} {o : Oper} {sl : List (Nat × DVal)} {own own' : List Ent} {d : DVal} (h : pureO o = true) (hn : OpOKF P ops o ⟨sl, own⟩ d) : OpOKF P ops o ⟨sl, own'⟩ d := by
 unfold OpOKF at hn ⊢
 cases hg : o.guard with
 | none => rw [hg] at hn; exact NeuF.pure h hn
 | some jw =>
  obtain ⟨j, want⟩ := jw
  rw [hg] at hn
  obtain ⟨h1, h2, d', h3, h4⟩ := hn
  exact ⟨h1, h2, d', h3, fun hb => NeuF.pure h (h4 hb)⟩
theorem zipIdx_mem {ops : Array Oper} {k : Nat} {o : Oper} (hk : ops[k]? = some o) : (o, k) ∈ ops.toList.zipIdx := by
 rw [List.mem_zipIdx_iff_getElem?]
 simpa using hk
end
mutual
def idsD : DVal → List Nat → List Nat
 | .bx i _ _, l => i :: l
 | .rx i _ _ _ _, l => i :: l
 | .osl i _, l => i :: l
 | .vw i _ _ _ _ _, l => i :: l
 | .omp i _, l => i :: l
 | .pk i _, l => i :: l
 | .sel _ d, l => idsD d l
 | .ref cs, l => idsL cs l
 | .sl _ _ es, l => idsR es l
 | .mp a b, l => idsL a (idsL b l)
 | .fn _ a b, l => idsL a (idsL b l)
 | .ifc _ d, l => idsD d l
 | .agg cs, l => idsL cs l
 | .tup cs, l => idsL cs l
 | _, l => l
def idsL : List DVal → List Nat → List Nat
 | [], l => l
 | d :: ds, l => idsD d (idsL ds l)
def idsR : List (List DVal) → List Nat → List Nat
 | [], l => l
 | c :: cs, l => idsL c (idsR cs l)
end
def ltOf (o : Oper) (n : Nat) : Nat := ((List.range (n + 1)).find? fun k => !(o.after.toList.any fun e => Region.binds .any e && e.on == k)).getD 1000000
def flB (lt nt : Nat) (ops3 : Array Oper) (z o : Oper) (t ty : Nat) : Bool :=
 gdOK ops3.pop.pop && ops3.pop.pop.toList.all (fun o => decide (o.dst ≠ some t)) && (match z.op with | .alloc ty' => ty' == ty | _ => false) && z.dst == some t && z.guard.isNone && z.after.isEmpty &&
 o.guard.isNone && lastOK lt o (ops3.pop.pop.size + 1) && lateB lt ops3.pop.pop ops3 o && decide (lt ≠ ops3.pop.pop.size) && decide (t < nt) && isEffF o && dstOK nt o.dst
section
variable (P : Program)
end
section
variable (P : Program) (O : CallV) (G : FuncId → Bool) (N : Nat)
end
section
variable {P : Program} {O : CallV} {G : FuncId → Bool} {N : Nat}
theorem mxS_argS : ∀ (args : List DVal) (i : Nat), mxS (argS args i) ≤ mxL args
 | [], _ => Nat.le_refl _
 | d :: ds, i => by
  simp only [argS, mxS, mxL]
  have := mxS_argS ds (i + 1); omega
theorem resD_mx {s : DS} {rs : List ResultVar} {d : DVal} {n : Nat} (h : resD P s rs = some d) (h1 : mxS s.slots ≤ n) (h2 : mxE s.own ≤ n) : mx d ≤ n := by
 have one : ∀ (r : ResultVar) (d : DVal), resOne P s r = some d → mx d ≤ n := by
  intro r d h
  cases r with
  | tmp t =>
   simp only [resOne, Option.some.injEq] at h; subst h
   exact Nat.le_trans (mx_getS _ _) h1
  | cell a t =>
   simp only [resOne] at h
   have hg := mx_getS s.slots a
   split at h
   ·rename_i hc
    have := cellsAt_mx hc
    split at h
    ·simp only [Option.some.injEq] at h; subst h
     simp only [mx]
     exact Nat.le_trans (mxL_take _ _) (by omega)
    ·simp at h
   ·rename_i hc
    have := cellsAt_mx hc
    split at h
    ·simp only [Option.some.injEq] at h; subst h
     simp only [mxL] at this
     omega
    ·simp at h
   ·simp at h
 have all : ∀ (rs : List ResultVar) (ds : List DVal), resL P s rs = some ds → mxL ds ≤ n := by
  intro rs
  induction rs with
  | nil => intro ds h; simp only [resL, Option.some.injEq] at h; subst h; simp [mxL]
  | cons r rs ih =>
   intro ds h
   simp only [resL] at h
   split at h
   ·rename_i d0 ds0 g1 g2
    simp only [Option.some.injEq] at h; subst h
    simp only [mxL]
    have := one r d0 g1
    have := ih ds0 g2
    omega
   ·simp at h
 unfold resD at h
 split at h
 ·rename_i d0 hl
  simp only [Option.some.injEq] at h; subst h
  have := all _ _ hl
  simp only [mxL] at this
  omega
 ·rename_i ds _ hl
  simp only [Option.some.injEq] at h; subst h
  simp only [mx]
  exact all _ _ hl
 ·simp at h
theorem Enters_of {f : FuncId} {fn : Func} {c : Code} (hf : P.funcs[f]? = some fn) (hn : (fn.name == "runtime.NumGoroutine") = false) (hb : fn.body = some c) : Enters P f := by
 intro args w
 unfold callFunc
 have hp : (program).run P w = .ok P w := rfl
 simp only [Sem.run_bind, hp, Result.andThen_ok, hf]
 rw [if_neg (by rw [hn]; simp), if_neg (by rw [hb]; simp)]
 rfl
end
section
variable {P : Program} {O : CallV} {G : FuncId → Bool} {N : Nat}
theorem pop_push {ops : Array Oper} {o : Oper} (h : ops.back? = some o) : ops = ops.pop.push o := by
 apply Array.ext'
 rw [Array.toList_push, Array.toList_pop]
 have h1 : ops.toList.getLast? = some o := by
  rw [List.getLast?_eq_getElem?]
  rw [Array.back?_eq_getElem?] at h
  simpa using h
 have h2 : ops.toList ≠ [] := fun h0 => by rw [h0] at h1; simp at h1
 rw [List.getLast?_eq_some_getLast h2] at h1
 simp only [Option.some.injEq] at h1
 rw [← h1]
 exact (List.dropLast_concat_getLast h2).symm
theorem Rel.drop {B : Base} {l : List (Nat × DVal)} {own : List Ent} {a : Act} {w : World} {loc : Nat → Loc} (t : Nat) (R : Rel B ⟨l, own⟩ a w loc) : Rel B ⟨(t, .any) :: l, own⟩ a w loc := by
 refine ⟨R.st, R.upd, R.new, R.ver, fun i => ?_, R.nt, R.df⟩
 simp only [getS]
 split
 ·simp [rd]
 ·exact R.sl i
end
end Go.Dm
end
