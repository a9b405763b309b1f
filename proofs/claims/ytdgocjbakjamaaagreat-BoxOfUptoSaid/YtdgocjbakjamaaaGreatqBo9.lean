/- Parts of a proof, laid together: EnFl, BO4, BO6, BO8, BX1, EnSu, BO9, RB5, RB6, BP0, BP1, RB7, RB8, BX4, BX6, RB9, BX2. -/
import Derived.Test.YtdgocjbakjamaaaGreatqBo4
import Derived.Test.YtdgocjbakjamaaaGreatqBo5
import Derived.Test.YtdgocjbakjamaaaGreatqBo6
import Derived.Test.YtdgocjbakjamaaaGreatqBo7
import Derived.Test.YtdgocjbakjamaaaGreatqBo8
section
set_option linter.unusedSectionVars false
/- The data machine, second make, part Fl: a region that draws, where a variable is made at no fixed time: its block is hidden from all till the end. -/

set_option linter.unusedSimpArgs false
set_option linter.unusedVariables false
namespace Go.Dm
variable [DMode]

theorem wpIn_keep {F : Fence} {n : Nat} {P : Program} {Q : Exit → Act → World → Prop} {o : Oper} {a : Act} {w : World} {K : Act → World → Prop} {t : Nat} {v0 : Value} (ht : o.dst ≠ some t) (h0 : a.tmps.getD t Go.undef = v0)
  (hh : o.wpIn F n P a w K Q) : o.wpIn F n P a w (fun a' w' => K a' w' ∧ a'.tmps.getD t Go.undef = v0) Q := by
 have key : ∀ (a : Act) v, a.tmps.getD t Go.undef = v0 → (a.put o.dst v).tmps.getD t Go.undef = v0 := by
  intro a v h0
  unfold Act.put
  cases hd : o.dst with
  | none => exact h0
  | some i =>
   have hi : i ≠ t := fun e => ht (by rw [hd, e])
   show (a.tmps.setIfInBounds i v).getD t Go.undef = v0
   rw [Array.getD_eq_getD_getElem?] at h0 ⊢
   rw [Array.getElem?_setIfInBounds_ne hi]
   exact h0
 unfold Oper.wpIn at *
 refine ⟨hh.1, ?_⟩
 have hh := hh.2
 generalize (o.semAt F.round a.eval).run P w = r at *
 cases r with
 | ok x w' =>
  cases x <;> simp only [Oper.uponIn] at hh ⊢ <;>
   first
    | exact ⟨hh, key _ _ h0⟩
    | exact ⟨hh, key { a with defers := _ } _ h0⟩
    | exact ⟨hh.1, CallsIn.mono hh.2 (fun e w'' he => by cases e <;> first | exact ⟨he, key _ _ h0⟩ | exact he)⟩
    | exact ⟨hh.1, RowsIn.mono hh.2 (fun _ _ he => ⟨he, key _ _ h0⟩)⟩
    | exact ⟨hh.1, RoundIn.mono hh.2 (fun e w'' he => by cases e <;> first | exact ⟨he, key _ _ h0⟩ | exact he)⟩
 | halt x w' => cases x <;> simp only [Oper.uponIn] at hh ⊢ <;> exact hh

section
variable {P : Program} {B : Base} {s : DS}

def Back (B B' : Base) (t b : Nat) (cs : List DVal) : Prop :=
 B'.nt = B.nt ∧ B'.N = B.N ∧ B'.ro = B.ro ∧ ∀ s' a' w' loc', Rel B' s' a' w' loc' → a'.tmps.getD t Go.undef = .pointer (some ⟨b, 0, none⟩) →
  ∃ loc'', Rel B ⟨(t, .bx t (lim B s') 0) :: s'.slots, upE s'.own t (lim B s') (.box cs)⟩ a' w' loc''

theorem Rel.hide {X : DS} {a : Act} {w : World} {loc : Nat → Loc} {t ty : Nat} {cs : List DVal} {us : List Value} (R : Rel B X a w loc) (ht : t < B.nt) (hX : getS X.slots t = .any)
  (hus : ∀ cur M h, rdV cur M h cs us) (hmx : mxL cs = 0) (hone : ∀ u ∈ us, u.oneCell' = true) :
  ∃ B', Back B B' t w.heap.size cs ∧ Rel B' X (a.put (some t) (.pointer (some ⟨w.heap.size, 0, none⟩))) (w.alloc (.cells us.toArray ty)) loc := by
 have hnb : ∀ b ∈ hotOf X.own loc ++ B.M0, b < w.heap.size := R.st.lt
 have hsz1 : (w.alloc (.cells us.toArray ty)).heap.size = w.heap.size + 1 := by show (w.heap.push _).size = _; simp
 have hget : ∀ b, b < w.heap.size → (w.alloc (.cells us.toArray ty)).heap[b]? = w.heap[b]? := fun b hb => by
  show (w.heap.push _)[b]? = _
  rw [Array.getElem?_push, if_neg (by omega)]
 have hU : Upd (hotOf X.own loc) w (w.alloc (.cells us.toArray ty)) := Upd.alloc _ _ _
 let B' : Base := ⟨X.own, loc, w.heap.size :: B.M0, B.N, w.alloc (.cells us.toArray ty), B.nt, B.ro, B.hN, B.nd, by have h1 := B.hnd; have h2 := R.upd.size; omega⟩
 have W : Weak (curOf X.own loc) (curOf X.own loc) (hotOf X.own loc ++ B.M0) (hotOf X.own loc ++ w.heap.size :: B.M0) w.heap (w.alloc (.cells us.toArray ty)).heap (lim B X) := by
  refine ⟨fun _ _ _ _ h => h, fun b o _ _ ho => ?_, fun b o hb _ ho hm => ?_⟩
  ·have hlt := (Array.getElem?_eq_some_iff.1 ho).1
   rw [hget b hlt]; exact ho
  ·have hlt := (Array.getElem?_eq_some_iff.1 ho).1
   rcases List.mem_append.1 hm with h | h
   ·exact hb (List.mem_append_left _ h)
   ·rcases List.mem_cons.1 h with h | h
    ·omega
    ·exact hb (List.mem_append_right _ h)
 have hlm : ∀ i, mx (getS X.slots i) ≤ lim B X := fun i => Nat.le_trans (mx_getS _ i) (by unfold lim; omega)
 refine ⟨B', ⟨rfl, rfl, rfl, ?_⟩, ?_⟩
 ·intro s' a' w' loc' R' hv
  have hlimE : lim B' s' = lim B s' := rfl
  have hbM : w.heap.size ∉ B.M0 := fun h => by have := hnb _ (List.mem_append_right _ h); omega
  have hbH : w.heap.size ∉ hotOf X.own loc := fun h => by have := hnb _ (List.mem_append_left _ h); omega
  have hbS : w.heap.size ∉ hotOf s'.own loc' := fun h => R'.st.ap _ h List.mem_cons_self
  have hcell : w'.heap[w.heap.size]? = some (.cells us.toArray ty (0, 0)) := by
   rw [R'.upd.blk w.heap.size (by show _ < (w.alloc _).heap.size; omega) hbH]
   exact heap_alloc_new w _
  have hids : ∀ e ∈ upE s'.own t (lim B s') (.box cs), (e = ⟨t, lim B s', .box cs⟩) ∨ (e ∈ s'.own ∧ e.id ≠ t) := fun e he => by
   rcases List.mem_cons.1 he with h | h
   ·exact .inl h
   ·exact .inr (mem_delE.1 h)
  have hhot : ∀ b ∈ hotOf (upE s'.own t (lim B s') (.box cs)) (upL loc' t ⟨[w.heap.size], Go.undef⟩), b = w.heap.size ∨ b ∈ hotOf s'.own loc' := by
   intro b hb
   obtain ⟨e, he, h1⟩ := List.mem_flatMap.1 hb
   rcases hids e he with rfl | ⟨h2, h3⟩
   ·simp only [upL, if_true, List.mem_singleton] at h1; exact .inl h1
   ·simp only [upL, if_neg h3] at h1; exact .inr (mem_hot h2 h1)
  have W2 : Weak (curOf s'.own loc') (curOf (upE s'.own t (lim B s') (.box cs)) (upL loc' t ⟨[w.heap.size], Go.undef⟩)) (hotOf s'.own loc' ++ w.heap.size :: B.M0) (hotOf (upE s'.own t (lim B s') (.box cs)) (upL loc' t ⟨[w.heap.size], Go.undef⟩) ++ B.M0) w'.heap w'.heap (lim B s') := by
   refine ⟨fun id r l hr hl => ?_, fun b o _ _ ho => ho, fun b o hb _ _ hm => ?_⟩
   ·obtain ⟨e, he, rfl, rfl, rfl⟩ := curOf_some hl
    rcases hids e he with rfl | ⟨h2, h3⟩
    ·simp at hr
    ·simp only [upL, if_neg h3]
     exact curOf_self R'.st.nd h2
   ·rcases List.mem_append.1 hm with h | h
    ·rcases hhot b h with rfl | h
     ·exact hb (List.mem_append_right _ List.mem_cons_self)
     ·exact hb (List.mem_append_left _ h)
    ·exact hb (List.mem_append_right _ (List.mem_cons_of_mem _ h))
  refine ⟨upL loc' t ⟨[w.heap.size], Go.undef⟩, ⟨?_, ?_, ?_, ?_, ?_⟩, ?_, ?_, ?_, ?_, R'.nt, ?_⟩
  ·simp only [upE, List.map_cons, List.nodup_cons]
   refine ⟨fun hm => ?_, nodup_delE R'.st.nd⟩
   obtain ⟨e, he, h1⟩ := List.mem_map.1 hm
   exact (mem_delE.1 he).2 h1
  ·unfold upE
   rw [hot_cons, hot_delE, List.nodup_append]
   simp only [upL, if_true]
   refine ⟨by simp, hot_nodup_sub R'.st.bl _ (nodup_delE R'.st.nd) (fun e he => (mem_delE.1 he).1), ?_⟩
   intro b hb b' hb' hbb
   subst hbb
   obtain ⟨e, he, hne, h1⟩ := hot_sub hb'
   simp only [List.mem_singleton] at hb
   subst hb
   exact hbS (mem_hot he h1)
  ·intro b hb hm
   rcases hhot b hb with rfl | h
   ·exact hbM hm
   ·exact R'.st.ap b h (List.mem_cons_of_mem _ hm)
  ·intro b hb
   rcases List.mem_append.1 hb with h | h
   ·rcases hhot b h with rfl | h
    ·exact (Array.getElem?_eq_some_iff.1 hcell).1
    ·exact R'.st.lt b (List.mem_append_left _ h)
   ·exact R'.st.lt b (List.mem_append_right _ (List.mem_cons_of_mem _ h))
  ·intro e he
   rcases hids e he with rfl | ⟨h2, h3⟩
   ·refine ⟨w.heap.size, us.toArray, ty, by simp [upL], hcell, by have := rdV_length _ _ (hus (fun _ _ => none) [] #[]); simpa using this, ?_⟩
    have := rdC_of cs us [] [] (hus (curOf (upE s'.own t (lim B s') (.box cs)) (upL loc' t ⟨[w.heap.size], Go.undef⟩)) (hotOf (upE s'.own t (lim B s') (.box cs)) (upL loc' t ⟨[w.heap.size], Go.undef⟩) ++ B.M0) w'.heap) hone
    simpa using this
   ·have hk := R'.st.ok e h2
    have hl : upL loc' t ⟨[w.heap.size], Go.undef⟩ e.id = loc' e.id := by simp only [upL, if_neg h3]
    rw [hl]
    refine ObjOK_weak W2 ?_ (fun _ _ _ ho => ho) hk
    have := (mem_mxE h2).2
    unfold lim
    omega
  ·exact (R.upd.trans (Upd.alloc [] w _) (by simp)).trans R'.upd (fun x hx => R.new x hx)
  ·intro b hb
   rcases hhot b hb with rfl | h
   ·exact .inr R.upd.size
   ·rcases R'.new b h with h | h
    ·exact R.new b h
    ·right
     have h1 : w.heap.size + 1 ≤ b := by rw [← hsz1]; exact h
     have := R.upd.size
     omega
  ·intro e he hlt
   rcases hids e he with rfl | ⟨h2, h3⟩
   ·simp only at hlt
    unfold lim at hlt
    omega
   ·simp only [upL, if_neg h3]
    obtain ⟨e2, k1, k2, k3, k4⟩ := curOf_some (R'.ver e h2 hlt)
    have := R.ver e2 k1 (by omega)
    rw [k2, k3] at this
    rw [this, k4]
  ·intro i
   simp only [getS]
   split
   ·rename_i hi
    subst hi
    simp only [rd]
    intro l hl
    rw [curOf_up] at hl
    simp only [Option.some.injEq] at hl
    subst hl
    exact ⟨_, rfl, hv⟩
   ·exact rd_weak W2 _ _ (Nat.le_trans (mx_getS _ i) (by unfold lim; omega)) (R'.sl i)
  ·obtain ⟨rs, g1, g2, g3, g4⟩ := R'.df
   refine ⟨rs, g1, g2, fun r hr => ?_, g4⟩
   obtain ⟨k1, k2, k3⟩ := g3 r hr
   refine ⟨k1, k2, fun hm => k3 ?_⟩
   rcases List.mem_append.1 hm with h | h
   ·rcases hhot r h with rfl | h
    ·exact List.mem_append_right _ List.mem_cons_self
    ·exact List.mem_append_left _ h
   ·exact List.mem_append_right _ (List.mem_cons_of_mem _ h)
 ·refine ⟨⟨R.st.nd, R.st.bl, ?_, ?_, ?_⟩, Upd.refl _ _, fun b hb => .inl hb, fun e he _ => curOf_self R.st.nd he, ?_, by simpa [Act.put] using R.nt, ?_⟩
  ·intro b hb hm
   rcases List.mem_cons.1 hm with h | h
   ·have := hnb b (List.mem_append_left _ hb); omega
   ·exact R.st.ap b hb h
  ·intro b hb
   rw [hsz1]
   rcases List.mem_append.1 hb with h | h
   ·have := hnb b (List.mem_append_left _ h); omega
   ·rcases List.mem_cons.1 h with h | h
    ·omega
    ·have := hnb b (List.mem_append_right _ h); omega
  ·intro e he
   have := (mem_mxE he).2
   exact ObjOK_weak W (by unfold lim; omega) (fun b o _ ho => by rw [hget b (Array.getElem?_eq_some_iff.1 ho).1]; exact ho) (R.st.ok e he)
  ·intro i
   by_cases hi : i = t
   ·subst hi
    rw [hX]
    simp only [rd]
   ·have h1 : (a.put (some t) (.pointer (some ⟨w.heap.size, 0, none⟩))).tmps.getD i Go.undef = a.tmps.getD i Go.undef := by
     show (a.tmps.setIfInBounds t _).getD i Go.undef = _
     rw [Array.getD_eq_getD_getElem?, Array.getD_eq_getD_getElem?, Array.getElem?_setIfInBounds_ne (Ne.symm hi)]
    rw [h1]
    exact rd_weak W _ _ (hlm i) (R.sl i)
  ·refine R.df.keep (B := B) (M' := hotOf X.own loc ++ w.heap.size :: B.M0) rfl hU (fun x hx => List.mem_append_left _ hx) fun b hb => ?_
   rcases List.mem_append.1 hb with h | h
   ·exact .inl (List.mem_append_left _ h)
   ·rcases List.mem_cons.1 h with h | h
    ·exact .inr (by omega)
    ·exact .inl (List.mem_append_right _ h)

def lastOK (o : Oper) (n : Nat) : Bool := ((List.range n).all fun k => o.after.toList.any fun e => Region.binds .any e && e.on == k) && o.after.toList.all fun e => decide (e.on < n)
def gdOK (ops : Array Oper) : Bool := ops.toList.all fun o => match o.guard with | some (j, _) => decide (j < ops.size) | none => true

theorem run_allocZ {a : Act} {w : World} {i t : Nat} {z : List DVal} {type : TypeId} {pos : String} {after : Array Edge} {guard : Option (Nat × Bool)} (hz : tZero P t = some z) (hp : z.all (oneO []) = true) :
  ∃ us : List Value, (∀ cur M h, rdV cur M h z us) ∧ mxL z = 0 ∧ (∀ u ∈ us, u.oneCell' = true) ∧ (execOp a.eval ⟨some i, .alloc t, type, pos, after, guard⟩).run P w = .ok (.value (.pointer (some ⟨w.heap.size, 0, none⟩))) (w.alloc (.cells us.toArray t)) := by
 obtain ⟨zv, hzr, rfl⟩ := tZero_ok (w := w) hz
 have hmx : mxL (zv.cells.toList.map ofV1) = 0 := by
  have h1 : ∀ v, mx (ofV1 v) = 0 := by
   intro v
   unfold ofV1
   split <;> (try split) <;> simp [mx]
  generalize zv.cells.toList = l
  induction l with
  | nil => simp [mxL]
  | cons v l ih =>
   show max (mx (ofV1 v)) (mxL (l.map ofV1)) = 0
   rw [h1, ih]
   rfl
 refine ⟨zv.cells.toList, fun cur M h => rdV_map_ofV1 _, hmx, ?_, ?_⟩
 ·exact oneO_all (s := ⟨[], []⟩) (loc := fun _ => ⟨[], Go.undef⟩) (M0 := []) (w := w) ⟨by simp, by simp [hotOf], by simp [hotOf], by simp [hotOf], by simp⟩ (zv.cells.toList.map ofV1) zv.cells.toList (List.all_eq_true.2 fun d hd => oneO_nil (List.all_eq_true.1 hp d hd)) (rdV_map_ofV1 _)
 ·simp [execOp, Instr.alloc, hzr, newVar, newRow]

def kF (P : Program) (B : Base) (Q : DS → Prop) (ow : List Nat) (t : Nat) (cs : List DVal) (o : Oper) : Cont :=
 ⟨fun s1 => ∀ r, dOpsX P B.nt ow [] [] #[o] [o] 0 ⟨Q⟩ ⟨(t, .bx t r 0) :: s1.slots, upE s1.own t r (.box cs)⟩⟩
theorem kF_f (P : Program) (B : Base) (Q : DS → Prop) (ow : List Nat) (t : Nat) (cs : List DVal) (o : Oper) (s1 : DS) : (kF P B Q ow t cs o).f s1 = ∀ r, dOpsX P B.nt ow [] [] #[o] [o] 0 ⟨Q⟩ ⟨(t, .bx t r 0) :: s1.slots, upE s1.own t r (.box cs)⟩ := id rfl

theorem DW_region_float (ow l1 l2 : List Nat) {id t ty : Nat} {ops ops3 : Array Oper} {z o : Oper} {cs : List DVal} {Q : Exit → DS → Prop} (hm : P.follows .mixedOrders = true) (h3 : ops3 = (ops.push z).push o) (hok : drawOKE ow l1 l2 ops = true)
  (hz : z.op = .alloc ty ∧ z.dst = some t ∧ z.guard = none ∧ z.after = #[]) (ho : o.guard = none ∧ isEff ow o = true) (hlast : lastOK o (ops.size + 1) = true) (hgd : gdOK ops = true)
  (ht : t < B.nt) (hdst : ops.toList.all (fun o => decide (o.dst ≠ some t)) = true) (hsl : getS s.slots t = .any) (hcs : tZero P ty = some cs) (hone : cs.all (oneO []) = true)
  (h : dOpsX P B.nt ow l1 l2 ops ops.toList 0 (kF P B (Q .normal) ow t cs o) s) : DW P B (.region id ops3 true) Q s := by
 subst h3
 intro a w loc R
 refine wpIn_region_any hm ?_
 obtain ⟨Inv, i1, i2, i3, i4⟩ := region_inv (N := B.N) ow l1 l2 hok R.st.nd h
 have hdst' : ∀ o ∈ ops.toList, o.dst ≠ some t := fun o ho => by simpa using List.all_eq_true.1 hdst o ho
 have spec := drawOK_spec (by unfold drawOKE at hok; simp only [Bool.and_eq_true] at hok; exact hok.1)
 have hsz3 : ((ops.push z).push o).size = ops.size + 2 := by simp
 have at_lo : ∀ k, k < ops.size → ((ops.push z).push o)[k]? = ops[k]? := fun k hk => by
  rw [Array.getElem?_push, if_neg (by simp; omega), Array.getElem?_push, if_neg (by omega)]
 have at_z : ((ops.push z).push o)[ops.size]? = some z := by
  rw [Array.getElem?_push, if_neg (by simp), Array.getElem?_push, if_pos rfl]
 have at_o : ((ops.push z).push o)[ops.size + 1]? = some o := by
  rw [Array.getElem?_push, if_pos (by simp)]
 have spec2 : (∀ k, k < ops.size + 1 → ∃ e ∈ o.after, Region.binds .any e = true ∧ e.on = k) ∧ ∀ e ∈ o.after, e.on < ops.size + 1 := by
  unfold lastOK at hlast
  simp only [Bool.and_eq_true, List.all_eq_true, List.mem_range, List.any_eq_true, beq_iff_eq, decide_eq_true_eq] at hlast
  exact ⟨fun k hk => by obtain ⟨e, he, h1, h2⟩ := hlast.1 k hk; exact ⟨e, by simpa using he, h1, h2⟩, fun e he => hlast.2 e (by simpa using he)⟩
 let lo : Array Bool → Array Bool := fun l => Array.ofFn (n := ops.size) fun i => l.getD i.1 false
 have lo_get : ∀ (l : Array Bool) k d, k < ops.size → (lo l).getD k d = l.getD k false := by
  intro l k d hk
  rw [Array.getD_eq_getD_getElem?]
  simp [lo, hk]
 have lo_set : ∀ (l : Array Bool) i, i < ops.size → l.size = ops.size + 2 → lo (l.setIfInBounds i true) = (lo l).setIfInBounds i true := by
  intro l i hi hl
  apply Array.ext
  ·simp [lo]
  ·intro j h1 h2
   rw [Array.getElem_setIfInBounds (by simpa using h2)]
   simp only [lo, Array.getElem_ofFn]
   split
   ·rename_i hij
    subst hij
    rw [Array.getD_eq_getD_getElem?, Array.getElem?_setIfInBounds_self_of_lt (by omega)]
    rfl
   ·rename_i hij
    rw [Array.getD_eq_getD_getElem?, Array.getD_eq_getD_getElem?, Array.getElem?_setIfInBounds_ne hij]
 have lo_set2 : ∀ (l : Array Bool) i, ops.size ≤ i → lo (l.setIfInBounds i true) = lo l := by
  intro l i hi
  apply Array.ext
  ·simp [lo]
  ·intro j h1 h2
   simp only [lo, Array.getElem_ofFn]
   have hj : j < ops.size := by simpa [lo] using h2
   rw [Array.getD_eq_getD_getElem?, Array.getD_eq_getD_getElem?, Array.getElem?_setIfInBounds_ne (by omega)]
 have done : ∀ (fuel : Nat) (listed : Array Bool) (a : Act) (w : World), listed.size = ops.size + 2 → (∀ i, i < ops.size + 2 → listed.getD i false = true) → QQ B Q .normal a w → wpAnyIn (wd B.ro) 0 P .any ((ops.push z).push o) (QQ B Q) fuel listed a w := by
  intro fuel listed a w hsz hall hq
  have hr : Region.ready .any ((ops.push z).push o) listed = [] := by
   rw [List.eq_nil_iff_forall_not_mem]
   intro i hi
   rw [mem_ready] at hi
   obtain ⟨g0, o', ho', _⟩ := hi
   have hlt : i < ops.size + 2 := by have := (Array.getElem?_eq_some_iff.1 ho').1; omega
   have g1 := hall i hlt
   have hi' : i < listed.size := by omega
   simp only [Array.getD_eq_getD_getElem?, Array.getElem?_eq_getElem hi', Option.getD_some] at g0 g1
   rw [g0] at g1; simp at g1
  cases fuel with
  | zero => exact ⟨hr, hq⟩
  | succ fuel => exact ⟨fun _ => hq, fun i hi => by rw [hr] at hi; simp at hi⟩
 have main : ∀ (fuel : Nat) (listed : Array Bool) (a : Act) (w : World), (List.range (ops.size + 2)).countP (fun k => listed.getD k false) + fuel = ops.size + 2 → listed.size = ops.size + 2 → listed.getD (ops.size + 1) false = false →
   ((listed.getD ops.size false = false ∧ Inv B (lo listed) a w) ∨ (listed.getD ops.size false = true ∧ ∃ B' b, Back B B' t b cs ∧ a.tmps.getD t Go.undef = .pointer (some ⟨b, 0, none⟩) ∧ Inv B' (lo listed) a w)) →
   wpAnyIn (wd B.ro) 0 P .any ((ops.push z).push o) (QQ B Q) fuel listed a w := by
  intro fuel
  induction fuel with
  | zero =>
   intro listed a w hcnt hsz hlst _
   have := (List.countP_eq_length (p := fun k => listed.getD k false) (l := List.range (ops.size + 2))).1 (by simpa using hcnt) (ops.size + 1) (List.mem_range.2 (by omega))
   simp only [hlst] at this
   simp at this
  | succ fuel ih =>
   intro listed a w hcnt hsz hlst hJ
   have hgd1 : ∀ k d, k < ops.size + 2 → listed.getD k d = listed.getD k false := by
    intro k d hk
    have : k < listed.size := by omega
    simp [Array.getD_eq_getD_getElem?, Array.getElem?_eq_getElem this]
   have cnt1 : ∀ i, i < ops.size + 2 → listed.getD i false = false → (List.range (ops.size + 2)).countP (fun k => (listed.setIfInBounds i true).getD k false) + fuel = ops.size + 2 := by
    intro i hi hSi
    have hi' : i < listed.size := by omega
    have hS' : (fun k => (listed.setIfInBounds i true).getD k false) = fun k => if k = i then true else listed.getD k false := by
     funext k
     by_cases hk : k = i
     ·subst hk; simp [hi']
     ·rw [if_neg hk, getD_set_ne false (Ne.symm hk)]
    rw [hS', cnt_set _ i hSi _ hi]; omega
   have low : ∀ i, i < ops.size → (i ∈ Region.ready .any ops (lo listed) ↔ i ∈ Region.ready .any ((ops.push z).push o) listed) := by
    intro i hi
    rw [mem_ready, mem_ready, at_lo i hi, lo_get _ _ _ hi, hgd1 i true (by omega)]
    refine and_congr_right fun _ => exists_congr fun o' => and_congr_right fun ho' => forall_congr' fun e => forall_congr' fun he => forall_congr' fun hb => ?_
    have := spec.acy i o' ho' e he hb
    rw [lo_get _ _ _ (by omega)]
   obtain ⟨B1, hB1, hI1⟩ : ∃ B1, (B1.nt = B.nt ∧ B1.N = B.N ∧ B1.ro = B.ro) ∧ Inv B1 (lo listed) a w := by
    rcases hJ with ⟨_, hI⟩ | ⟨_, B', b, hB, _, hI⟩
    ·exact ⟨B, ⟨rfl, rfl, rfl⟩, hI⟩
    ·exact ⟨B', ⟨hB.1, hB.2.1, hB.2.2.1⟩, hI⟩
   obtain ⟨hsl1, h5, h6⟩ := i2 _ _ _ _ hI1
   refine ⟨fun hr => ?_, fun i hi => ?_⟩
   ·exfalso
    have h7 : Region.ready .any ops (lo listed) = [] := by
     rw [List.eq_nil_iff_forall_not_mem]
     intro i hi
     have hlt : i < ops.size := by
      rw [mem_ready] at hi
      obtain ⟨_, o', ho', _⟩ := hi
      exact (Array.getElem?_eq_some_iff.1 ho').1
     have := (low i hlt).1 hi
     rw [hr] at this
     simp at this
    have h8 := h5 h7
    rcases hJ with ⟨hzl, _⟩ | ⟨hzl, _⟩
    ·have : ops.size ∈ Region.ready .any ((ops.push z).push o) listed := by
      rw [mem_ready, hgd1 _ true (by omega)]
      exact ⟨hzl, z, at_z, fun e he => by rw [hz.2.2.2] at he; simp at he⟩
     rw [hr] at this
     simp at this
    ·have : ops.size + 1 ∈ Region.ready .any ((ops.push z).push o) listed := by
      rw [mem_ready, hgd1 _ true (by omega)]
      refine ⟨hlst, o, at_o, fun e he _ => ?_⟩
      have := spec2.2 e he
      by_cases he2 : e.on = ops.size
      ·rw [he2]; exact hzl
      ·rw [← lo_get listed e.on false (by omega)]; exact h8 e.on (by omega)
     rw [hr] at this
     simp at this
   ·have hi0 := hi
    rw [mem_ready] at hi0
    obtain ⟨g0, o', ho', hpre⟩ := hi0
    have hlt : i < ops.size + 2 := by have := (Array.getElem?_eq_some_iff.1 ho').1; omega
    rw [hgd1 i true hlt] at g0
    have hset : ∀ k, k ≠ i → (listed.setIfInBounds i true).getD k false = listed.getD k false := fun k hk => getD_set_ne false (Ne.symm hk)
    by_cases hin : i < ops.size
    ·have hio : ops[i]? = some o' := by rw [← at_lo i hin]; exact ho'
     have hdn : o'.dst ≠ some t := hdst' o' (by simpa using Array.mem_of_getElem? hio)
     have hy : Region.wanted o' (yielded ((ops.push z).push o) a.tmps) = Region.wanted o' (yielded ops a.tmps) := by
      unfold Region.wanted
      cases hg : o'.guard with
      | none => rfl
      | some jw =>
       obtain ⟨j, want⟩ := jw
       have hj : j < ops.size := by
        have h9 := List.all_eq_true.1 hgd o' (by simpa using Array.mem_of_getElem? hio)
        rw [hg] at h9
        simpa using h9
       simp only [yielded, at_lo j hj]
     have conv : ∀ {K : Act → World → Prop}, wpOpIn (wd B.ro) 0 P ops (QQ B Q) i K a w → wpOpIn (wd B.ro) 0 P ((ops.push z).push o) (QQ B Q) i K a w := by
      intro K hh
      unfold wpOpIn at hh ⊢
      rw [hio] at hh
      rw [ho']
      simp only at hh ⊢
      rw [hy]
      exact hh
     have hsz' : (listed.setIfInBounds i true).size = ops.size + 2 := by simpa using hsz
     have hl' : (listed.setIfInBounds i true).getD (ops.size + 1) false = false := by rw [hset _ (by omega)]; exact hlst
     rcases hJ with ⟨hzl, hI⟩ | ⟨hzl, B', b, hB, hv, hI⟩
     ·refine conv (i3 B (lo listed) a w i _ _ rfl rfl hI ((low i hin).2 hi) fun a' w' hI' => ?_)
      exact ih _ a' w' (cnt1 i hlt g0) hsz' hl' (.inl ⟨by rw [hset _ (by omega)]; exact hzl, by rw [lo_set _ i hin hsz]; exact hI'⟩)
     ·have hw := i3 B' (lo listed) a w i (Inv B' ((lo listed).setIfInBounds i true)) (QQ B Q) hB.1 hB.2.1 hI ((low i hin).2 hi) fun _ _ h => h
      rw [hB.2.2.1] at hw
      refine conv ?_
      unfold wpOpIn at hw ⊢
      rw [hio] at hw ⊢
      simp only at hw ⊢
      have nx : ∀ a' w', Inv B' ((lo listed).setIfInBounds i true) a' w' ∧ a'.tmps.getD t Go.undef = .pointer (some ⟨b, 0, none⟩) → wpAnyIn (wd B.ro) 0 P .any ((ops.push z).push o) (QQ B Q) fuel (listed.setIfInBounds i true) a' w' := by
       rintro a' w' ⟨hI', hv'⟩
       exact ih _ a' w' (cnt1 i hlt g0) hsz' hl' (.inr ⟨by rw [hset _ (by omega)]; exact hzl, B', b, hB, hv', by rw [lo_set _ i hin hsz]; exact hI'⟩)
      split
      ·rename_i hw1
       rw [if_pos hw1] at hw
       exact Oper.wpIn_mono nx (wpIn_keep hdn hv hw)
      ·rename_i hw1
       rw [if_neg hw1] at hw
       refine ⟨hw.1, nx _ _ ⟨hw.2, ?_⟩⟩
       unfold Act.put
       cases hd : o'.dst with
       | none => exact hv
       | some i' =>
        have hi' : i' ≠ t := fun e => hdn (by rw [hd, e])
        show (a.tmps.setIfInBounds i' _).getD t Go.undef = _
        rw [Array.getD_eq_getD_getElem?] at hv ⊢
        rw [Array.getElem?_setIfInBounds_ne hi']
        exact hv
    ·by_cases hiz : i = ops.size
     ·subst hiz
      rw [at_z] at ho'
      simp only [Option.some.injEq] at ho'
      subst ho'
      rcases hJ with ⟨_, hI⟩ | ⟨hzl, _⟩
      ·obtain ⟨dst, op, type, pos, after, guard⟩ := z
       obtain ⟨hz1, hz2, hz3, hz4⟩ := hz
       simp only at hz1 hz2 hz3 hz4
       subst hz1 hz2 hz3 hz4
       unfold wpOpIn
       rw [at_z]
       simp only
       rw [if_pos (by simp [Region.wanted])]
       obtain ⟨us, u1, u2, u3, u4⟩ := run_allocZ (a := a) (w := w) (i := t) (type := type) (pos := pos) (after := #[]) (guard := none) hcs hone
       refine wp_val (fun c hc => by cases hc) u4 ?_
       obtain ⟨B', ⟨hB', hv'⟩, hI'⟩ := i4 B (fun B' => Back B B' t w.heap.size cs ∧ (a.put (some t) (.pointer (some ⟨w.heap.size, 0, none⟩))).tmps.getD t Go.undef = .pointer (some ⟨w.heap.size, 0, none⟩)) (lo listed) a w (a.put (some t) (.pointer (some ⟨w.heap.size, 0, none⟩))) (w.alloc (.cells us.toArray ty)) t hI hdst' (fun X loc hX RX => by
        obtain ⟨B', b1, b2⟩ := RX.hide (ty := ty) ht (by rw [hX]; exact hsl) u1 u2 u3
        refine ⟨B', ⟨b1, ?_⟩, b2⟩
        show (a.tmps.setIfInBounds t _).getD t Go.undef = _
        rw [Array.getD_eq_getD_getElem?, Array.getElem?_setIfInBounds_self_of_lt (by rw [RX.nt]; exact ht)]
        rfl)
       refine ih _ _ _ (cnt1 _ hlt g0) (by simpa using hsz) (by rw [hset _ (by omega)]; exact hlst) (.inr ⟨?_, B', _, hB', hv', by rw [lo_set2 _ _ (Nat.le_refl _)]; exact hI'⟩)
       rw [Array.getD_eq_getD_getElem?, Array.getElem?_setIfInBounds_self_of_lt (by omega)]
       rfl
      ·rw [hzl] at g0; simp at g0
     ·have hil : i = ops.size + 1 := by omega
      subst hil
      rw [at_o] at ho'
      simp only [Option.some.injEq] at ho'
      subst ho'
      have hall : ∀ k, k < ops.size + 1 → listed.getD k false = true := by
       intro k hk
       obtain ⟨e, he, hb, rfl⟩ := spec2.1 k hk
       exact hpre e he hb
      rcases hJ with ⟨hzl, _⟩ | ⟨_, B', b, hB, hv, hI⟩
      ·rw [hall _ (by omega)] at hzl; simp at hzl
      ·obtain ⟨_, _, h9⟩ := i2 _ _ _ _ hI
       obtain ⟨s1, loc1, hK, R1⟩ := h9 fun k hk => by rw [lo_get _ _ _ hk]; exact hall k (by omega)
       obtain ⟨loc2, R2⟩ := hB.2.2.2 s1 a w loc1 R1 hv
       rw [kF_f] at hK
       have hK := hK (lim B s1)
       rw [dOpsX_cons, ho.1] at hK
       simp only [ho.2, if_true] at hK
       obtain ⟨hd, _, hx⟩ := hK
       obtain ⟨d, own', x1, x2⟩ := effX_out hx (lim B ⟨(t, .bx t (lim B s1) 0) :: s1.slots, upE s1.own t (lim B s1) (.box cs)⟩)
       unfold wpOpIn
       rw [at_o]
       simp only
       rw [if_pos (by simp [Region.wanted, ho.1])]
       refine eo_wp (R := R2) (Nat.le_refl _) hd (fun x _ => R2.ev x) (fun x _ => ev_mx _ x) x1 fun a' w' loc' R' => ?_
       refine done fuel _ a' w' (by simpa using hsz) (fun k hk => ?_) ⟨_, loc', x2, R'⟩
       by_cases hk2 : k = ops.size + 1
       ·subst hk2
        rw [Array.getD_eq_getD_getElem?, Array.getElem?_setIfInBounds_self_of_lt (by omega)]
        rfl
       ·rw [hset k hk2]; exact hall k (by omega)
 have hrep : ∀ k, (Array.replicate (ops.size + 2) false).getD k false = false := by
  intro k
  simp [Array.getD_eq_getD_getElem?, Array.getElem?_replicate]
  split <;> simp
 have hlo : lo (Array.replicate (ops.size + 2) false) = Array.replicate ops.size false := by
  apply Array.ext
  ·simp [lo]
  ·intro j h1 h2
   simp only [lo, Array.getElem_ofFn, hrep, Array.getElem_replicate]
 rw [hsz3]
 refine main (ops.size + 2) _ a _ ?_ (by simp) (hrep _) (.inl ⟨hrep _, by rw [hlo]; exact i1 B rfl rfl a w loc R⟩)
 have : (List.range (ops.size + 2)).countP (fun k => (Array.replicate (ops.size + 2) false).getD k false) = 0 := by
  rw [List.countP_eq_zero]
  intro k _
  rw [hrep]
  simp
 omega

def floatOK (ow l1 l2 : List Nat) (ops3 : Array Oper) (t ty : Nat) : Bool :=
 drawOKE ow l1 l2 ops3.pop.pop && gdOK ops3.pop.pop && ops3.pop.pop.toList.all (fun o => decide (o.dst ≠ some t)) &&
 (match ops3.pop.back? with | some z => (match z.op with | .alloc ty' => ty' == ty | _ => false) && z.dst == some t && z.guard.isNone && z.after.isEmpty | none => false) &&
 (match ops3.back? with | some o => o.guard.isNone && isEff ow o && lastOK o (ops3.pop.pop.size + 1) | none => false)
theorem DW_rf (ow l1 l2 : List Nat) (t ty : Nat) (cs : List DVal) {id : Nat} {ops3 : Array Oper} {z o : Oper} {Q : Exit → DS → Prop} (hm : P.follows .mixedOrders = true) (hzb : ops3.pop.back? = some z) (hob : ops3.back? = some o) (h3 : ops3 = (ops3.pop.pop.push z).push o) (hc : floatOK ow l1 l2 ops3 t ty = true)
  (ht : t < B.nt) (hsl : getS s.slots t = .any) (hcs : tZero P ty = some cs) (hone : cs.all (oneO []) = true)
  (h : dOpsX P B.nt ow l1 l2 ops3.pop.pop ops3.pop.pop.toList 0 (kF P B (Q .normal) ow t cs o) s) : DW P B (.region id ops3 true) Q s := by
 unfold floatOK at hc
 rw [hzb, hob] at hc
 simp only [Bool.and_eq_true] at hc
 obtain ⟨⟨⟨⟨c1, c2⟩, c3⟩, c4⟩, c5⟩ := hc
 obtain ⟨⟨⟨c6, c7⟩, c8⟩, c9⟩ := c4
 refine DW_region_float ow l1 l2 (z := z) (o := o) hm h3 c1 ⟨?_, by simpa using c7, by simpa using c8, by simpa using c9⟩ ⟨by simpa using c5.1.1, c5.1.2⟩ c5.2 c2 ht c3 hsl hcs hone h
 cases hz : z.op <;> rw [hz] at c6 <;> simp at c6
 rw [c6]
end
theorem DW_nilC {P : Program} {B : Base} {Q : Exit → DS → Prop} {s : DS} {x : Code} (bid c k bs : Nat) {rb : Nat} {cs : List DVal} (h : findE s.own bid = some ⟨bid, rb, .box cs⟩) (hc : cs.getD c .any = .nilsl)
  (hw : DW P B x Q ⟨s.slots, upE s.own bid rb (.box (cs.set c (.sl k bs [])))⟩) : DW P B x Q s := by
 refine DW_sub (fun a w loc R => ?_) hw
 refine R.reBox h rfl (by simp) fun arr hr => rdC_set cs arr 0 c (fun v hv => ?_) hr
 rw [hc] at hv
 simp only [rd] at hv ⊢
 rw [hv]
 exact ⟨none, 0, by simp, by simp, by simp, by simp, .inl ⟨by simp, fun _ => rfl⟩⟩
end Go.Dm
end

section
set_option linter.unusedSectionVars false
/- boxes, program's side: parts in a row -/



set_option linter.unusedSimpArgs false
set_option linter.unusedVariables false
namespace Go.Proofs.YtdgocjbakjamaaaGreat
open Go Go.Dm Go.Shelf
variable [DMode]
attribute [local irreducible] DW callP callS
set_option maxRecDepth 100000

def anBO4137 : Ann := ⟨[13, 22, 25], [⟨2, [], [], [0, 1, 2, 3, 4, 5, 6, 7, 9, 10, 12]⟩]⟩
set_option maxHeartbeats 2000000 in
theorem seq137_spec (S SF : List Sym) (A : List Arc) (e e' : Bool) (f f' l l' : List Nat) (hp : S <+: SF) (hf : ∀ q ∈ f', 1 ≤ q ∧ q ≤ S.length) (hS : S.length < 9223372036854775807) (hb : (A.length + l.length * f'.length) * 32 ≤ 150000000000000)
  (h1 : (f.length + f'.length) * 8 ≤ 140737488355328) (h2 : (l'.length + l.length) * 8 ≤ 140737488355328) :
  DSpec Tryz.prog (.func 137) [.bx 0 0 0, dPart e f l, dPart e' f' l'] (dBx 0 0 S A) (dPart (e && e') (f ++ if e = true then f' else []) (l' ++ if e' = true then l else [])) (dBx 0 1 S (A ++ arcsJ SF (joinP l f'))) := by
 refine DSpec_intro [22, 25, 6, 7] [(0, 0, 0), (1, 1, 0), (2, 2, 1)] (fn := Tryz.f137) Tryz.func137 rfl Tryz.call137 (by simp [Tryz.ntmps137]) (by simp) (by simp [dBx]) ?_
 intro hwf B hnt
 simp only [Tryz.ntmps137] at hnt
 have hA := an_is anBO4137 Tryz.mixed (aj2 @anBO4137.eq_1 Tryz.results137)
 clear hwf
 simp only [argS]
 have e1 := join72_spec S SF A l f' hp hf hS hb
 have e2 := clone95_spec f (by omega)
 have e3 := clone95_spec l' (by omega)
 have b1 : (f.length + f'.length) * 8 ≤ 150000000000000 := by omega
 have b2 : (l'.length + l.length) * 8 ≤ 150000000000000 := by omega
 obtain ⟨Z, hZ⟩ : ∃ Z, Z = A ++ arcsJ SF (joinP l f') := ⟨_, rfl⟩
 rw [← hZ] at e1 ⊢
 cases e
 ·cases e'
  ·(repeat (first | (refine DW_rf (id := 2) (anBO4137).ow [] [0, 1, 2, 3, 4, 5, 6, 7, 9, 10] 7 120 [.bool false, .nilsl, .nilsl] Tryz.mixed rfl rfl (by kernel_rfl) (by kernel_rfl) (by simp [hnt]) (by simp) (by simp) (by rfl) ?_; simp only [List.pop_toArray, List.dropLast_cons_cons, List.dropLast_singleton, List.dropLast_nil]; simp [kF_f, anBO4137, hnt, dBx, b1, b2, kF_f]; try simp (disch := omega) only [wrap64_in]) | refine DW_seq fun K hK => ?_ | (refine DW_r anBO4137 Tryz.mixed (by kernel_rfl) ?_; simp [anBO4137, hnt, dBx, b1, b2, kF_f]; try simp (disch := omega) only [wrap64_in]) | refine DW_block ?_ | (refine DW_if ?_ ?_ ?_; (· (simp [hnt, dBx, b1, b2, kF_f]; done)); (try (rotate_left; (· (intro hc; (try simp [hnt, dBx, b1, b2, kF_f] at hc); done))))) | (refine DW_ret ?_; simp [Tryz.results137, hnt, dBx, b1, b2, kF_f]) | ((first | refine DW_exit ?_ | refine DW_skip ?_); simp [hnt, dBx, b1, b2, kF_f]) | (intro hc; (try simp [hnt, dBx, b1, b2, kF_f] at hc); (try (exfalso; omega))) | (refine callS_mk [(0,0),(1,1),(2,2)] [] (e1) ?_ ?_; (· (simp [hnt, dBx, b1, b2, kF_f]; done)); (intro _; try simp [hnt, dBx, b1, b2, kF_f])) | (refine callS_mk [] [(22,0)] (e2) ?_ ?_; (· (simp [hnt, dBx, b1, b2, kF_f]; done)); (intro _; try simp [hnt, dBx, b1, b2, kF_f])) | (refine callS_mk [] [(25,0)] (e3) ?_ ?_; (· (simp [hnt, dBx, b1, b2, kF_f]; done)); (intro _; try simp [hnt, dBx, b1, b2, kF_f])) | (refine ⟨?_, ?_⟩; · omega) | omega | apply_assumption -exfalso -symm | (exfalso; omega)))
  ·(repeat (first | (refine DW_rf (id := 2) (anBO4137).ow [] [0, 1, 2, 3, 4, 5, 6, 7, 9, 10] 7 120 [.bool false, .nilsl, .nilsl] Tryz.mixed rfl rfl (by kernel_rfl) (by kernel_rfl) (by simp [hnt]) (by simp) (by simp) (by rfl) ?_; simp only [List.pop_toArray, List.dropLast_cons_cons, List.dropLast_singleton, List.dropLast_nil]; simp [kF_f, anBO4137, hnt, dBx, b1, b2, kF_f]; try simp (disch := omega) only [wrap64_in]) | refine DW_seq fun K hK => ?_ | (refine DW_r anBO4137 Tryz.mixed (by kernel_rfl) ?_; simp [anBO4137, hnt, dBx, b1, b2, kF_f]; try simp (disch := omega) only [wrap64_in]) | refine DW_block ?_ | (refine DW_if ?_ ?_ ?_; (· (simp [hnt, dBx, b1, b2, kF_f]; done)); (try (rotate_left; (· (intro hc; (try simp [hnt, dBx, b1, b2, kF_f] at hc); done))))) | (refine DW_ret ?_; simp [Tryz.results137, hnt, dBx, b1, b2, kF_f]) | ((first | refine DW_exit ?_ | refine DW_skip ?_); simp [hnt, dBx, b1, b2, kF_f]) | (intro hc; (try simp [hnt, dBx, b1, b2, kF_f] at hc); (try (exfalso; omega))) | (refine callS_mk [(0,0),(1,1),(2,2)] [] (e1) ?_ ?_; (· (simp [hnt, dBx, b1, b2, kF_f]; done)); (intro _; try simp [hnt, dBx, b1, b2, kF_f])) | (refine callS_mk [] [(22,0)] (e2) ?_ ?_; (· (simp [hnt, dBx, b1, b2, kF_f]; done)); (intro _; try simp [hnt, dBx, b1, b2, kF_f])) | (refine callS_mk [] [(25,0)] (e3) ?_ ?_; (· (simp [hnt, dBx, b1, b2, kF_f]; done)); (intro _; try simp [hnt, dBx, b1, b2, kF_f])) | (refine ⟨?_, ?_⟩; · omega) | omega | apply_assumption -exfalso -symm | (exfalso; omega)))
 ·cases e'
  ·(repeat (first | (refine DW_rf (id := 2) (anBO4137).ow [] [0, 1, 2, 3, 4, 5, 6, 7, 9, 10] 7 120 [.bool false, .nilsl, .nilsl] Tryz.mixed rfl rfl (by kernel_rfl) (by kernel_rfl) (by simp [hnt]) (by simp) (by simp) (by rfl) ?_; simp only [List.pop_toArray, List.dropLast_cons_cons, List.dropLast_singleton, List.dropLast_nil]; simp [kF_f, anBO4137, hnt, dBx, b1, b2, kF_f]; try simp (disch := omega) only [wrap64_in]) | refine DW_seq fun K hK => ?_ | (refine DW_r anBO4137 Tryz.mixed (by kernel_rfl) ?_; simp [anBO4137, hnt, dBx, b1, b2, kF_f]; try simp (disch := omega) only [wrap64_in]) | refine DW_block ?_ | (refine DW_if ?_ ?_ ?_; (· (simp [hnt, dBx, b1, b2, kF_f]; done)); (try (rotate_left; (· (intro hc; (try simp [hnt, dBx, b1, b2, kF_f] at hc); done))))) | (refine DW_ret ?_; simp [Tryz.results137, hnt, dBx, b1, b2, kF_f]) | ((first | refine DW_exit ?_ | refine DW_skip ?_); simp [hnt, dBx, b1, b2, kF_f]) | (intro hc; (try simp [hnt, dBx, b1, b2, kF_f] at hc); (try (exfalso; omega))) | (refine callS_mk [(0,0),(1,1),(2,2)] [] (e1) ?_ ?_; (· (simp [hnt, dBx, b1, b2, kF_f]; done)); (intro _; try simp [hnt, dBx, b1, b2, kF_f])) | (refine callS_mk [] [(22,0)] (e2) ?_ ?_; (· (simp [hnt, dBx, b1, b2, kF_f]; done)); (intro _; try simp [hnt, dBx, b1, b2, kF_f])) | (refine callS_mk [] [(25,0)] (e3) ?_ ?_; (· (simp [hnt, dBx, b1, b2, kF_f]; done)); (intro _; try simp [hnt, dBx, b1, b2, kF_f])) | (refine ⟨?_, ?_⟩; · omega) | omega | apply_assumption -exfalso -symm | (exfalso; omega)))
  ·(repeat (first | (refine DW_rf (id := 2) (anBO4137).ow [] [0, 1, 2, 3, 4, 5, 6, 7, 9, 10] 7 120 [.bool false, .nilsl, .nilsl] Tryz.mixed rfl rfl (by kernel_rfl) (by kernel_rfl) (by simp [hnt]) (by simp) (by simp) (by rfl) ?_; simp only [List.pop_toArray, List.dropLast_cons_cons, List.dropLast_singleton, List.dropLast_nil]; simp [kF_f, anBO4137, hnt, dBx, b1, b2, kF_f]; try simp (disch := omega) only [wrap64_in]) | refine DW_seq fun K hK => ?_ | (refine DW_r anBO4137 Tryz.mixed (by kernel_rfl) ?_; simp [anBO4137, hnt, dBx, b1, b2, kF_f]; try simp (disch := omega) only [wrap64_in]) | refine DW_block ?_ | (refine DW_if ?_ ?_ ?_; (· (simp [hnt, dBx, b1, b2, kF_f]; done)); (try (rotate_left; (· (intro hc; (try simp [hnt, dBx, b1, b2, kF_f] at hc); done))))) | (refine DW_ret ?_; simp [Tryz.results137, hnt, dBx, b1, b2, kF_f]) | ((first | refine DW_exit ?_ | refine DW_skip ?_); simp [hnt, dBx, b1, b2, kF_f]) | (intro hc; (try simp [hnt, dBx, b1, b2, kF_f] at hc); (try (exfalso; omega))) | (refine callS_mk [(0,0),(1,1),(2,2)] [] (e1) ?_ ?_; (· (simp [hnt, dBx, b1, b2, kF_f]; done)); (intro _; try simp [hnt, dBx, b1, b2, kF_f])) | (refine callS_mk [] [(22,0)] (e2) ?_ ?_; (· (simp [hnt, dBx, b1, b2, kF_f]; done)); (intro _; try simp [hnt, dBx, b1, b2, kF_f])) | (refine callS_mk [] [(25,0)] (e3) ?_ ?_; (· (simp [hnt, dBx, b1, b2, kF_f]; done)); (intro _; try simp [hnt, dBx, b1, b2, kF_f])) | (refine ⟨?_, ?_⟩; · omega) | omega | apply_assumption -exfalso -symm | (exfalso; omega)))
end Go.Proofs.YtdgocjbakjamaaaGreat
end

section
set_option linter.unusedSectionVars false
/- boxes, program's side: the lists that a tree's walk makes. Plain Lean. -/


set_option linter.unusedSimpArgs false
set_option linter.unusedVariables false
namespace Go.Proofs.YtdgocjbakjamaaaGreat
open Go Go.Dm
variable [DMode]

def symsT (H L : List ByteArray) (S : List Sym) (t : RT) : List Sym := S ++ (lvs (flat t)).map (symS H L)
def symsA (H L : List ByteArray) (S : List Sym) (us : List RT) : List Sym := S ++ (lvs (flatL us)).map (symS H L)
def firT (l : List Nd) (ah : Nat) (t : RT) (a : Nat) : List Nat := (fiT t a).map (num l ah)
def lasT (l : List Nd) (ah : Nat) (t : RT) (a : Nat) : List Nat := (laT t a).map (num l ah)
def arcsT (SF : List Sym) (l : List Nd) (ah : Nat) (A : List Arc) (t : RT) (a : Nat) : List Arc := A ++ arcsJ SF ((arT t a).map (num2 l ah))
def firA (l : List Nd) (ah : Nat) (k : Int) (us : List RT) (a : Nat) : List Nat := (fiL k us a).map (num l ah)
def lasA (l : List Nd) (ah : Nat) (k : Int) (us : List RT) (a : Nat) : List Nat := (laL k us a).map (num l ah)
def arcsA (SF : List Sym) (l : List Nd) (ah : Nat) (A : List Arc) (k : Int) (us : List RT) (a : Nat) : List Arc := A ++ arcsJ SF ((arL k us a []).map (num2 l ah))

theorem symsA_nil (H L : List ByteArray) (S : List Sym) : symsA H L S [] = S := by unfold symsA; rw [flatL_nil]; simp [lvs]
theorem firA_nil (l : List Nd) (ah : Nat) (k : Int) (a : Nat) : firA l ah k [] a = [] := by unfold firA; rw [fiL_nil]; rfl
theorem lasA_nil (l : List Nd) (ah : Nat) (k : Int) (a : Nat) : lasA l ah k [] a = [] := by unfold lasA; rw [laL_nil]; rfl
theorem arcsA_nil (SF : List Sym) (l : List Nd) (ah : Nat) (A : List Arc) (k : Int) (a : Nat) : arcsA SF l ah A k [] a = A := by unfold arcsA; rw [arL_nil]; simp [arcsJ]
theorem symsA_snoc (H L : List ByteArray) (S : List Sym) (us : List RT) (u : RT) : symsA H L S (us ++ [u]) = symsT H L (symsA H L S us) u := by
 unfold symsA symsT
 rw [flatL_app, flatL_one, lvs_app, List.map_append, List.append_assoc]
theorem symsA_all (H L : List ByteArray) (S : List Sym) {x : Nd} (ks : List RT) (h : ¬ (x.k = 2 ∨ x.k = 3)) : symsT H L S (.mk x ks) = symsA H L S ks := by
 unfold symsA symsT
 rw [flat_mk, lvs_node h]
theorem firA_four (l : List Nd) (ah : Nat) (us : List RT) (u : RT) (a : Nat) : firA l ah 4 (us ++ [u]) a = firA l ah 4 us a ++ (if pE 4 us = true then firT l ah u (a + (flatL us).length) else []) := by
 unfold firA firT
 rw [fiL_snoc, List.map_append]
 congr 1
 unfold pE
 cases h : allE us <;> simp
theorem firA_else (l : List Nd) (ah : Nat) {k : Int} (hk : ¬ k = 4) (us : List RT) (u : RT) (a : Nat) : firA l ah k (us ++ [u]) a = firA l ah k us a ++ firT l ah u (a + (flatL us).length) := by
 unfold firA firT
 rw [fiL_snoc, List.map_append, if_neg (fun h => hk h.1)]
theorem lasA_four (l : List Nd) (ah : Nat) (us : List RT) (u : RT) (a : Nat) : lasA l ah 4 (us ++ [u]) a = lasT l ah u (a + (flatL us).length) ++ (if empT u = true then lasA l ah 4 us a else []) := by
 unfold lasA lasT
 rw [laL_snoc, if_pos rfl, List.map_append]
 cases h : empT u <;> simp
theorem lasA_else (l : List Nd) (ah : Nat) {k : Int} (hk : ¬ k = 4) (us : List RT) (u : RT) (a : Nat) : lasA l ah k (us ++ [u]) a = lasA l ah k us a ++ lasT l ah u (a + (flatL us).length) := by
 unfold lasA lasT
 rw [laL_snoc, if_neg hk, List.map_append]
theorem arcsA_four (SF : List Sym) (l : List Nd) (ah : Nat) (A : List Arc) (us : List RT) (u : RT) (a : Nat) : arcsA SF l ah A 4 (us ++ [u]) a = arcsT SF l ah (arcsA SF l ah A 4 us a) u (a + (flatL us).length) ++ arcsJ SF (joinP (lasA l ah 4 us a) (firT l ah u (a + (flatL us).length))) := by
 unfold arcsA arcsT lasA firT
 rw [arL_snoc4, joinP_map, List.map_append, List.map_append, arcsJ_app, arcsJ_app]
 simp [List.append_assoc]
theorem arcsA_else (SF : List Sym) (l : List Nd) (ah : Nat) (A : List Arc) {k : Int} (hk : ¬ k = 4) (us : List RT) (u : RT) (a : Nat) : arcsA SF l ah A k (us ++ [u]) a = arcsT SF l ah (arcsA SF l ah A k us a) u (a + (flatL us).length) := by
 unfold arcsA arcsT
 rw [arL_snoc k hk, List.map_append, arcsJ_app, List.append_assoc]
theorem firA_all (l : List Nd) (ah : Nat) {x : Nd} (ks : List RT) (a : Nat) (h : ¬ (x.k = 2 ∨ x.k = 3)) : firT l ah (.mk x ks) a = firA l ah x.k ks (a + 1) := by
 unfold firT firA
 rw [fiT_mk, if_neg h]
theorem lasA_all (l : List Nd) (ah : Nat) {x : Nd} (ks : List RT) (a : Nat) (h : ¬ (x.k = 2 ∨ x.k = 3)) : lasT l ah (.mk x ks) a = lasA l ah x.k ks (a + 1) := by
 unfold lasT lasA
 rw [laT_mk, if_neg h]
theorem arcsA_loop (SF : List Sym) (l : List Nd) (ah : Nat) (A : List Arc) {x : Nd} (ks : List RT) (a : Nat) (h : ¬ (x.k = 2 ∨ x.k = 3)) (h6 : x.k = 6 ∨ x.k = 7) : arcsT SF l ah A (.mk x ks) a = arcsA SF l ah A x.k ks (a + 1) ++ arcsJ SF (joinP (lasA l ah x.k ks (a + 1)) (firA l ah x.k ks (a + 1))) := by
 unfold arcsT arcsA lasA firA
 rw [arT_mk, if_neg h, if_pos h6, joinP_map, List.map_append, arcsJ_app, List.append_assoc]
theorem arcsA_once (SF : List Sym) (l : List Nd) (ah : Nat) (A : List Arc) {x : Nd} (ks : List RT) (a : Nat) (h : ¬ (x.k = 2 ∨ x.k = 3)) (h6 : ¬ (x.k = 6 ∨ x.k = 7)) : arcsT SF l ah A (.mk x ks) a = arcsA SF l ah A x.k ks (a + 1) := by
 unfold arcsT arcsA
 rw [arT_mk, if_neg h, if_neg h6, List.append_nil]
theorem firT_len (l : List Nd) (ah : Nat) (t : RT) (a : Nat) : (firT l ah t a).length ≤ (lvs (flat t)).length := by unfold firT; rw [List.length_map]; exact fiT_len t a
theorem lasT_len (l : List Nd) (ah : Nat) (t : RT) (a : Nat) : (lasT l ah t a).length ≤ (lvs (flat t)).length := by unfold lasT; rw [List.length_map]; exact laT_len t a
theorem firA_len (l : List Nd) (ah : Nat) (k : Int) (us : List RT) (a : Nat) : (firA l ah k us a).length ≤ (lvs (flatL us)).length := by unfold firA; rw [List.length_map]; exact fiL_len k us a
theorem lasA_len (l : List Nd) (ah : Nat) (k : Int) (us : List RT) (a : Nat) : (lasA l ah k us a).length ≤ (lvs (flatL us)).length := by unfold lasA; rw [List.length_map]; exact laL_len k us a
theorem arcsA_len (SF : List Sym) (l : List Nd) (ah : Nat) (A : List Arc) (k : Int) (us : List RT) (a : Nat) (h : (lvs (flatL us)).length ≤ 64) : (arcsA SF l ah A k us a).length ≤ A.length + 8192 * (flatL us).length := by
 unfold arcsA
 rw [List.length_append, arcsJ_len, List.length_map]
 have := arL_len k us a [] (by simpa using h)
 omega
theorem arcsT_len (SF : List Sym) (l : List Nd) (ah : Nat) (A : List Arc) (t : RT) (a : Nat) (h : (lvs (flat t)).length ≤ 64) : (arcsT SF l ah A t a).length + 4096 ≤ A.length + 8192 * (flat t).length := by
 unfold arcsT
 rw [List.length_append, arcsJ_len, List.length_map]
 have := arT_len t a h
 omega
theorem symsT_len (H L : List ByteArray) (S : List Sym) (t : RT) : (symsT H L S t).length = S.length + (lvs (flat t)).length := by simp [symsT]
theorem symsA_len (H L : List ByteArray) (S : List Sym) (us : List RT) : (symsA H L S us).length = S.length + (lvs (flatL us)).length := by simp [symsA]
theorem firT_num {l r : List Nd} {t : RT} {a ah : Nat} (h : l.drop a = flat t ++ r) : ∀ q ∈ firT l ah t a, 1 ≤ q ∧ q ≤ ah + rkN l (a + (flat t).length) := fi_num h
theorem firA_num {l r : List Nd} {k : Int} {us : List RT} {a ah : Nat} (h : l.drop a = flatL us ++ r) : ∀ q ∈ firA l ah k us a, 1 ≤ q ∧ q ≤ ah + rkN l (a + (flatL us).length) := fiL_num h
end Go.Proofs.YtdgocjbakjamaaaGreat
end

section
set_option linter.unusedSectionVars false
/- boxes, program's side: a tree -/


set_option linter.unusedSimpArgs false
set_option linter.unusedVariables false
namespace Go.Proofs.YtdgocjbakjamaaaGreat
open Go Go.Dm Go.Shelf
variable [DMode]
attribute [local irreducible] DW callP callS
set_option maxRecDepth 100000

abbrev ofF (H L : List ByteArray) : DVal := .fn (.func 70) [] [.ref [dTab H L]]
def TreeSpec (H L : List ByteArray) (l : List Nd) (ah : Nat) (SF : List Sym) (t : RT) : Prop :=
 ∀ (a : Nat) (r : List Nd) (S : List Sym) (A : List Arc), l.drop a = flat t ++ r → S.length = ah + rkN l a → symsT H L S t <+: SF → (A.length + 8192 * (flat t).length) * 32 ≤ 150000000000000 →
  DSpec Tryz.prog (.func 69) [.bx 0 0 0, dNds (flat t ++ r), ofF H L] (dBx 0 0 S A) (.tup [dPart (empT t) (firT l ah t a) (lasT l ah t a), dNds r]) (dBx 1 1 (symsT H L S t) (arcsT SF l ah A t a))

def anBO869 : Ann := ⟨[66, 75, 90], [⟨1, [8], [], []⟩, ⟨5, [], [0], []⟩]⟩
set_option maxHeartbeats 2000000 in
theorem tree69_leaf (H L : List ByteArray) (l : List Nd) (ah : Nat) (SF : List Sym) (x : Nd) (hx : x.k = 2 ∨ x.k = 3) (h64 : ah + (lvs l).length ≤ 64) : TreeSpec H L l ah SF (.mk x []) := by
 intro a r S A hdr hS hSF hA
 have hfl : flat (.mk x []) = [x] := by rw [flat_mk, flatL_nil]
 have hlx : lvs (flat (.mk x [])) = [x] := by rw [hfl, lvs_leaf hx]; rfl
 have h1 : symsT H L S (.mk x []) = S ++ [symS H L x] := by unfold symsT; rw [hlx]; rfl
 have h2 : firT l ah (.mk x []) a = [num l ah a] := by unfold firT; rw [fiT_mk, if_pos hx]; rfl
 have h3 : lasT l ah (.mk x []) a = [num l ah a] := by unfold lasT; rw [laT_mk, if_pos hx]; rfl
 have h4 : arcsT SF l ah A (.mk x []) a = A := by unfold arcsT; rw [arT_mk, if_pos hx]; simp [arcsJ]
 have h5 : empT (.mk x []) = false := by rw [empT_mk, if_pos hx]
 have h6 : num l ah a = S.length + 1 := by unfold num; omega
 have hs := lvs_sub hdr
 rw [hlx] at hs
 have hr1 : rkN l a ≤ (lvs l).length := by
  rw [← rkN_all]
  by_cases h : a ≤ l.length
  ·exact rkN_mono l h
  ·unfold rkN; rw [List.take_of_length_le (by omega), List.take_length]; exact Nat.le_refl _
 rw [h1, h2, h3, h4, h5, h6, hfl]
 have e1 := of70_pure H L x
 clear hSF h1 h2 h3 h4 h5 h6 hdr hfl hlx
 refine DSpec_intro [6, 10] [(0, 0, 0), (1, 1, 1), (2, 2, 1)] (fn := Tryz.f69) Tryz.func69 rfl Tryz.call69 (by simp [Tryz.ntmps69]) (by simp) (by simp [dBx]) ?_
 intro hwf B hnt
 simp only [Tryz.ntmps69] at hnt
 have hA := an_is anBO869 Tryz.mixed (aj2 @anBO869.eq_1 Tryz.results69)
 clear hwf
 have hS1 : S.length ≤ 64 := by omega
 have hS2 : (S.length + 1) * 16 ≤ 150000000000000 := by omega
 simp only [argS, List.cons_append, List.nil_append]
 have hT : List.take r.length (List.map dNd r) = List.map dNd r := List.take_of_length_le (by simp)
 rcases hx with hx | hx
 ·simp only [dNd, hx] at e1
  exact go0 (aj1 e1) aj0 (aj7 @dBx.eq_1 @dNd.eq_1 @dSym.eq_1 hx hS2 @natD.eq_1 hT)
 ·simp only [dNd, hx] at e1
  exact go0 (aj1 e1) aj0 (aj7 @dBx.eq_1 @dNd.eq_1 @dSym.eq_1 hx hS2 @natD.eq_1 hT)
theorem rkN_le (l : List Nd) (p : Nat) : rkN l p ≤ (lvs l).length := by
 rw [← rkN_all]
 by_cases h : p ≤ l.length
 ·exact rkN_mono l h
 ·unfold rkN; rw [List.take_of_length_le (by omega), List.take_length]; exact Nat.le_refl _
theorem flatL_ge : ∀ us : List RT, us.length ≤ (flatL us).length
 | [] => by simp
 | u :: us => by
  have h1 := flat_len u
  have h2 := flatL_ge us
  rw [flatL_cons, List.length_append, List.length_cons]
  omega
theorem flat_mem : ∀ {us : List RT} {u : RT}, u ∈ us → (flat u).length ≤ (flatL us).length
 | v :: us, u, h => by
  rw [flatL_cons, List.length_append]
  rcases List.mem_cons.1 h with rfl | h
  ·omega
  ·have := flat_mem h; omega
def anBO869b2 : Ann := ⟨[66, 75, 90], [⟨1, [8], [], []⟩, ⟨5, [], [0], []⟩]⟩
set_option maxHeartbeats 4000000 in
theorem tree69_node (H L : List ByteArray) (l : List Nd) (ah : Nat) (SF : List Sym) (x : Nd) (ks : List RT) (ht : okT (.mk x ks) = true) (hx : ¬ (x.k = 2 ∨ x.k = 3)) (h64 : ah + (lvs l).length ≤ 64) (ih : ∀ u ∈ ks, TreeSpec H L l ah SF u) : TreeSpec H L l ah SF (.mk x ks) := by
 intro a r S A hdr hS hSF hA
 have hn := (okT_mk ht).2.1
 have hEall := pE_all ht hx
 have hdr1 : l.drop (a + 1) = flatL ks ++ r := by
  have := drop_step (m := [x]) (r := flatL ks ++ r) (by rw [hdr, flat_mk]; rfl)
  simpa using this
 have hrk1 : rkN l (a + 1) = rkN l a := by
  have := rkN_step (m := [x]) (r := flatL ks ++ r) (by rw [hdr, flat_mk]; rfl)
  rw [lvs_node hx] at this
  simpa [lvs] using this
 rw [symsA_all H L S ks hx] at hSF ⊢
 rw [firA_all l ah ks a hx, lasA_all l ah ks a hx, hEall]
 rw [flat_mk, List.length_cons] at hA
 have hlv := lvs_sub hdr1
 have hrl := rkN_le l
 obtain ⟨AF, hAF⟩ : ∃ AF, AF = arcsT SF l ah A (.mk x ks) a := ⟨_, rfl⟩
 rw [← hAF, flat_mk]
 clear hEall hdr ht
 refine DSpec_intro [6, 10] [(0, 0, 0), (1, 1, 1), (2, 2, 1)] (fn := Tryz.f69) Tryz.func69 rfl Tryz.call69 (by simp [Tryz.ntmps69]) (by simp) (by simp [dBx]) ?_
 intro hwf B hnt
 simp only [Tryz.ntmps69] at hnt
 have hA := an_is anBO869b2 Tryz.mixed (aj2 @anBO869b2.eq_1 Tryz.results69)
 clear hwf
 have k2 : ¬ x.k = 2 := fun h => hx (.inl h)
 have k3 : ¬ x.k = 3 := fun h => hx (.inr h)
 have hT : List.take (flatL ks ++ r).length (List.map dNd (flatL ks ++ r)) = List.map dNd (flatL ks ++ r) := List.take_of_length_le (by simp)
 obtain ⟨R1, hR1⟩ : ∃ R1, R1 = flatL ks ++ r := ⟨_, rfl⟩
 simp only [argS, List.cons_append]
 rw [← hR1] at hT ⊢
 have b2 : (x.k == 2) = false := by simpa using k2
 have b3 : (x.k == 3) = false := by simpa using k3
 (refine go1 aj0 aj0 (aj7 @dBx.eq_1 @dNd.eq_1 k2 k3 b2 b3 hT) ?_; intros; refine mk_i ?_)
 have hp0 : (decide (x.k = 1) || x.k == 4) = pE x.k [] := by rw [pE_nil]; rfl
 rw [hp0]
 refine DW_nilC 10 1 1 8 rfl rfl ?_
 refine DW_nilC 10 2 1 8 rfl rfl ?_
 have hj0 : (0 : Int) = (([] : List RT).length : Int) := rfl
 refine DW_loop (X := {p : List RT × List RT // ks = p.1 ++ p.2}) (fun p => ⟨[(0, .bx 0 0 0), (2, ofF H L), (6, .bx 6 1 0), (7, .nilsl), (8, .ref (dNd x)), (9, dNds (flatL p.1.2 ++ r)), (10, .bx 10 1 0), (59, .int .i64 x.n), (60, .int .i64 p.1.1.length)],
  dBx 1 1 (symsA H L S p.1.1) (arcsA SF l ah A x.k p.1.1 (a + 1)) ++ [⟨6, 1, .box [.bool false, .nilsl, .nilsl]⟩, ⟨10, 1, .box [.bool (pE x.k p.1.1), dNats (firA l ah x.k p.1.1 (a + 1)), dNats (lasA l ah x.k p.1.1 (a + 1))]⟩]⟩) (fun p => p.1.2.length) ⟨([], ks), rfl⟩ (Sub.lit (by simp [dBx, symsA_nil, arcsA_nil, firA_nil, lasA_nil, dNd, hR1])) ?_
 rintro ⟨⟨us, vs⟩, hks⟩
 simp only at hks ⊢
 cases vs with
 | cons u vs =>
  have hmem : u ∈ ks := by rw [hks]; simp
  have hlt : (us.length : Int) < x.n := by rw [hn, hks]; simp; omega
  have hks1 : flatL ks = flatL us ++ (flat u ++ flatL vs) := by rw [hks, flatL_app, flatL_cons]
  have hdrA : l.drop (a + 1) = flatL us ++ (flat u ++ (flatL vs ++ r)) := by rw [hdr1, hks1]; simp
  have hdrU := drop_step hdrA
  have hSU : (symsA H L S us).length = ah + rkN l (a + 1 + (flatL us).length) := by rw [symsA_len, rkN_step hdrA, hS, hrk1]; omega
  have hpre : symsA H L S (us ++ [u]) <+: SF := by
   refine List.IsPrefix.trans ?_ hSF
   rw [hks]
   unfold symsA
   rw [show us ++ u :: vs = (us ++ [u]) ++ vs by simp, flatL_app (us ++ [u]), lvs_app, List.map_append, ← List.append_assoc]
   exact List.prefix_append _ _
  have hSn := symsA_snoc H L S us u
  rw [hSn] at hpre
  have hlv1 : (lvs (flatL us)).length + (lvs (flat u)).length ≤ (lvs l).length := by
   rw [hks1, lvs_app, lvs_app, List.length_append, List.length_append] at hlv
   omega
  have hAl := arcsA_len SF l ah A x.k us (a + 1) (by omega)
  have hfl : (flatL ks).length = (flatL us).length + ((flat u).length + (flatL vs).length) := by rw [hks1, List.length_append, List.length_append]
  have e1 := ih u hmem _ _ (symsA H L S us) (arcsA SF l ah A x.k us (a + 1)) hdrU hSU hpre (by omega)
  have hAl1 := arcsT_len SF l ah (arcsA SF l ah A x.k us (a + 1)) u (a + 1 + (flatL us).length) (by omega)
  have hSl1 := symsT_len H L (symsA H L S us) u
  have hnum := firT_num (ah := ah) hdrU
  have hr5 := hrl (a + 1 + (flatL us).length + (flat u).length)
  rw [rkN_step hdrU] at hnum hr5
  have hF0 := firA_len l ah x.k us (a + 1)
  have hL0 := lasA_len l ah x.k us (a + 1)
  have hF1 := firT_len l ah u (a + 1 + (flatL us).length)
  have hL1 := lasT_len l ah u (a + 1 + (flatL us).length)
  have hEn := pE_snoc x.k us u
  have hFn := fun h => firA_else l ah (k := x.k) h us u (a + 1)
  have hLn := fun h => lasA_else l ah (k := x.k) h us u (a + 1)
  have hAn := fun h => arcsA_else SF l ah A (k := x.k) h us u (a + 1)
  have hFn4 := firA_four l ah us u (a + 1)
  have hLn4 := lasA_four l ah us u (a + 1)
  have hAn4 := arcsA_four SF l ah A us u (a + 1)
  have hdl : flatL (u :: vs) ++ r = flat u ++ (flatL vs ++ r) := by rw [flatL_cons, List.append_assoc]
  rw [hdl]
  obtain ⟨R0, hR0⟩ : ∃ R0, R0 = flat u ++ (flatL vs ++ r) := ⟨_, rfl⟩
  rw [← hR0] at e1 ⊢
  obtain ⟨R2, hR2⟩ : ∃ R2, R2 = flatL vs ++ r := ⟨_, rfl⟩
  rw [← hR2] at e1
  have hjm := join_le (l := lasA l ah x.k us (a + 1)) (f := firT l ah u (a + 1 + (flatL us).length)) (by omega) (by omega)
  have hge := flatL_ge us
  have hwr : IntKind.i64.wrap ((us.length : Int) + 1) = (us.length : Int) + 1 := wrap64_in (by omega) (by omega)
  by_cases k4 : x.k = 4
  ·have e2 := seq137_spec (symsT H L (symsA H L S us) u) SF (arcsT SF l ah (arcsA SF l ah A x.k us (a + 1)) u (a + 1 + (flatL us).length)) (pE x.k us) (empT u) (firA l ah x.k us (a + 1)) (firT l ah u (a + 1 + (flatL us).length)) (lasA l ah x.k us (a + 1)) (lasT l ah u (a + 1 + (flatL us).length)) hpre (fun q hq => by have := hnum q hq; omega) (by omega) (by omega) (by omega) (by omega)
   rw [k4] at e1 e2 hEn
   rw [if_pos rfl] at hEn
   rw [← hFn4, ← hLn4, ← hAn4, ← hEn] at e2
   rw [← hSn] at e1 e2
   simp only [k4]
   (refine go1 aj0 (aj2 (spc [(0,0),(1,1),(2,2)] [] e1) (spc [(0,0),(1,1),(2,2)] [] e2)) (aj4 @dBx.eq_1 @dNd.eq_1 k4 hlt) ?_; intros; refine mk_i ?_)
   refine Again.mk ⟨(us ++ [u], vs), by simp [hks]⟩ (Sub.lit (by simp [dBx, hR2, hwr])) (by simp)
   skip
  ·have e2 := alt71_pure (pE x.k us) (empT u) (firA l ah x.k us (a + 1)) (firT l ah u (a + 1 + (flatL us).length)) (lasA l ah x.k us (a + 1)) (lasT l ah u (a + 1 + (flatL us).length)) (by omega) (by omega)
   rw [if_neg k4] at hEn
   rw [← hFn k4, ← hLn k4, ← hEn] at e2
   rw [← hAn k4, ← hSn] at e1
   have b4 : (x.k == 4) = false := by simpa using k4
   (refine go1 (aj1 e2) (aj1 (spc [(0,0),(1,1),(2,2)] [] e1)) (aj5 @dBx.eq_1 @dNd.eq_1 k4 b4 hlt) ?_; intros; refine mk_i ?_)
   refine Again.mk ⟨(us ++ [u], vs), by simp [hks]⟩ (Sub.lit (by simp [dBx, hR2, hwr])) (by simp)
   skip
 | nil =>
  rw [List.append_nil] at hks
  subst hks
  have hnlt : ¬ ((ks.length : Int) < x.n) := by rw [hn]; omega
  have hSl := symsA_len H L S ks
  have hr5 := hrl (a + 1 + (flatL ks).length)
  rw [rkN_step hdr1] at hr5
  have hF0 := firA_len l ah x.k ks (a + 1)
  have hL0 := lasA_len l ah x.k ks (a + 1)
  have hAl := arcsA_len SF l ah A x.k ks (a + 1) (by omega)
  have hnum := firA_num (ah := ah) (k := x.k) hdr1
  rw [rkN_step hdr1] at hnum
  have hjm := join_le (l := lasA l ah x.k ks (a + 1)) (f := firA l ah x.k ks (a + 1)) (by omega) (by omega)
  have e3 := join72_spec (symsA H L S ks) SF (arcsA SF l ah A x.k ks (a + 1)) (lasA l ah x.k ks (a + 1)) (firA l ah x.k ks (a + 1)) hSF (fun q hq => by have := hnum q hq; omega) (by omega) (by omega)
  have hdl : flatL [] ++ r = r := by rw [flatL_nil]; rfl
  rw [hdl]
  have hbe : ∀ n : Int, (x.k == n) = decide (x.k = n) := fun n => rfl
  by_cases h6 : x.k = 6
  ·rw [arcsA_loop SF l ah A ks a hx (.inl h6)] at hAF
   rw [← hAF] at e3
   rw [h6] at e3
   simp only [h6]
   exact go0 aj0 (aj1 (spc [(0,0),(1,1),(2,2)] [] e3)) (aj4 @dBx.eq_1 @dNd.eq_1 h6 hnlt)
  ·by_cases h7 : x.k = 7
   ·rw [arcsA_loop SF l ah A ks a hx (.inr h7)] at hAF
    rw [← hAF] at e3
    rw [h7] at e3
    simp only [h7]
    exact go0 aj0 (aj1 (spc [(0,0),(1,1),(2,2)] [] e3)) (aj4 @dBx.eq_1 @dNd.eq_1 h7 hnlt)
   ·rw [arcsA_once SF l ah A ks a hx (by omega)] at hAF
    have b6 : (x.k == 6) = false := by simpa using h6
    have b7 : (x.k == 7) = false := by simpa using h7
    exact go0 aj0 aj0 (aj9 @dBx.eq_1 @dNd.eq_1 h6 h7 b6 b7 hnlt hbe hAF)
theorem tree69_all (H L : List ByteArray) (l : List Nd) (ah : Nat) (SF : List Sym) (h64 : ah + (lvs l).length ≤ 64) : ∀ (n : Nat) (t : RT), (flat t).length ≤ n → okT t = true → TreeSpec H L l ah SF t
 | 0, t, hn, _ => by have := flat_len t; omega
 | n + 1, .mk x ks, hn, ht => by
  by_cases hx : x.k = 2 ∨ x.k = 3
  ·have := leaf_nil ht hx
   subst this
   exact tree69_leaf H L l ah SF x hx h64
  ·refine tree69_node H L l ah SF x ks ht hx h64 fun u hu => ?_
   refine tree69_all H L l ah SF h64 n u ?_ (okL_mem (okT_mk ht).2.2 u hu)
   have h1 := flat_mem hu
   rw [flat_mk, List.length_cons] at hn
   omega
end Go.Proofs.YtdgocjbakjamaaaGreat
end

section
set_option linter.unusedSectionVars false
/- may an automaton be? -/


set_option linter.unusedSimpArgs false
set_option linter.unusedVariables false
namespace Go.Proofs.YtdgocjbakjamaaaGreat
open Go Go.Dm
variable [DMode]
attribute [local irreducible] DW callP callS
set_option maxRecDepth 100000

def anBX186 : Ann := ⟨[], []⟩
theorem state15_pure (a : Auto) (q : Int) : DPure Tryz.prog 86 [.int .i64 q, .ref (dAuto a)] (.bool (stB a.st q)) := by
 refine DPure_introF [] (fn := Tryz.f86) Tryz.func86 rfl Tryz.call86 (by simp [Tryz.ntmps86]) (by simp [mx]) ?_
 intro hwf B hnt
 simp only [Tryz.ntmps86] at hnt
 have hA := an_is anBX186 Tryz.mixed (aj2 @anBX186.eq_1 Tryz.results86)
 simp only [argS]
 by_cases h1 : 0 ≤ q
 ·by_cases h2 : q < a.st <;> exact go0 aj0 aj0 (aj4 @dAuto.eq_1 @stB.eq_1 h1 h2)
 ·exact go0 aj0 aj0 (aj3 @dAuto.eq_1 @stB.eq_1 h1)
def anBX1143 : Ann := ⟨[], []⟩
theorem bySym35_pure (x y : Sym) : DPure Tryz.prog 143 [.agg (dSym x), .agg (dSym y)] (.int .i64 (symC x y)) := by
 refine DPure_introF [] (fn := Tryz.f143) Tryz.func143 rfl Tryz.call143 (by simp [Tryz.ntmps143]) (by simp [mx]) ?_
 intro hwf B hnt
 simp only [Tryz.ntmps143] at hnt
 have hA := an_is anBX1143 Tryz.mixed (aj2 @anBX1143.eq_1 Tryz.results143)
 simp only [argS]
 cases h1 : x.label <;> cases h2 : y.label <;> exact go0 (aj1 (cmpInt_pure x.n y.n)) aj0 (aj4 @dSym.eq_1 h1 h2 @symC.eq_1)
def anBX174 : Ann := ⟨[], []⟩
theorem order16_pure (x y : Arc) : DPure Tryz.prog 74 [.agg (dArc x), .agg (dArc y)] (.int .i64 (arcC x y)) := by
 refine DPure_introF [] (fn := Tryz.f74) Tryz.func74 rfl Tryz.call74 (by simp [Tryz.ntmps74]) (by simp [mx]) ?_
 intro hwf B hnt
 simp only [Tryz.ntmps74] at hnt
 have hA := an_is anBX174 Tryz.mixed (aj2 @anBX174.eq_1 Tryz.results74)
 simp only [argS]
 have h1 := cmpInt_pure x.fr y.fr
 have h2 := bySym35_pure x.sy y.sy
 have h3 := cmpInt_pure x.to y.to
 have h4 := or3_pure (cmpI x.fr y.fr) (symC x.sy y.sy) (cmpI x.to y.to)
 simp only [dSym] at h2
 unfold arcC
 exact go0 (aj4 h1 h2 h3 h4) aj0 (aj1 @dArc.eq_1)
def anBX1244 : Ann := ⟨[], []⟩
theorem symLess36_pure (x y : Sym) : DPure Tryz.prog 244 [.agg (dSym x), .agg (dSym y)] (.bool (symLess x y)) := by
 refine DPure_introF [] (fn := Tryz.f244) Tryz.func244 rfl Tryz.call244 (by simp [Tryz.ntmps244]) (by simp [mx]) ?_
 intro hwf B hnt
 simp only [Tryz.ntmps244] at hnt
 have hA := an_is anBX1244 Tryz.mixed (aj2 @anBX1244.eq_1 Tryz.results244)
 simp only [argS]
 cases h1 : x.label <;> cases h2 : y.label <;> exact go0 aj0 aj0 (aj4 @dSym.eq_1 h1 h2 @symLess.eq_1)
def anBX1232 : Ann := ⟨[], []⟩
theorem less17_pure (x y : Arc) : DPure Tryz.prog 232 [.agg (dArc x), .agg (dArc y)] (.bool (arcLess x y)) := by
 refine DPure_introF [] (fn := Tryz.f232) Tryz.func232 rfl Tryz.call232 (by simp [Tryz.ntmps232]) (by simp [mx]) ?_
 intro hwf B hnt
 simp only [Tryz.ntmps232] at hnt
 have hA := an_is anBX1232 Tryz.mixed (aj2 @anBX1232.eq_1 Tryz.results232)
 simp only [argS]
 have h2 := symLess36_pure x.sy y.sy
 simp only [dSym] at h2
 unfold arcLess
 by_cases h1 : x.fr = y.fr
 ·have h1b : (x.fr != y.fr) = false := by simpa using h1
  by_cases h3 : x.sy = y.sy
  ·have e1 : x.sy.label = y.sy.label := by rw [h3]
   have e2 : x.sy.n = y.sy.n := by rw [h3]
   exact go0 (aj1 h2) aj0 (aj6 @dArc.eq_1 h1 h1b h3 e1 e2)
  ·have e : (x.sy.label == y.sy.label && x.sy.n == y.sy.n) = false := by
    rw [Bool.eq_false_iff]
    intro hh
    simp only [Bool.and_eq_true, beq_iff_eq] at hh
    apply h3
    cases hx : x.sy
    cases hy : y.sy
    rw [hx, hy] at hh
    simp only at hh
    rw [hh.1, hh.2]
   exact go0 (aj1 h2) aj0 (aj5 @dArc.eq_1 h1 h1b h3 e)
 ·have h1b : (x.fr != y.fr) = true := by simpa using h1
  exact go0 (aj1 h2) aj0 (aj3 @dArc.eq_1 h1 h1b)

end Go.Proofs.YtdgocjbakjamaaaGreat
end

section
set_option linter.unusedSectionVars false
/- The data machine, second make, part Su: slices.SortFunc at texts, by the shelf's contract. -/

set_option linter.unusedSimpArgs false
set_option linter.unusedVariables false
namespace Go.Dm
variable [DMode]
open Go.Shelf Go.Sort Go.Proofs Go.RowKit

abbrev TextM := { s : ByteArray // s.size ≤ maxLen }
instance : Inhabited TextM := ⟨⟨⟨#[]⟩, by decide⟩⟩
end Go.Dm
end

section
set_option linter.unusedSectionVars false
/- boxes: arcs sorted and each once -/





set_option linter.unusedSimpArgs false
set_option linter.unusedVariables false
namespace Go.Proofs.YtdgocjbakjamaaaGreat
open Go Go.Dm Go.Shelf
variable [DMode]
attribute [local irreducible] DW callP callS
set_option maxRecDepth 100000

abbrev eqA (x y : Arc) : Bool := arcC x y == 0
theorem eqA_ne {x y : Arc} (h : eqA x y = false) : ¬ x = y := fun e => by
 have := (ordArc.eq0 x y).2 e
 simp [eqA, this] at h
theorem eqA_eq {x y : Arc} (h : eqA x y = true) : x = y := (ordArc.eq0 x y).1 (by simpa [eqA] using h)
theorem arc_ne {x y : Arc} (h : ¬ x = y) : (x.fr == y.fr && (x.sy.label == y.sy.label && (x.sy.n == y.sy.n && x.to == y.to))) = false := by
 cases hb : (x.fr == y.fr && (x.sy.label == y.sy.label && (x.sy.n == y.sy.n && x.to == y.to))) with
 | false => rfl
 | true =>
  exfalso
  apply h
  obtain ⟨a, ⟨b, c⟩, d⟩ := x
  obtain ⟨a', ⟨b', c'⟩, d'⟩ := y
  simp at hb
  obtain ⟨rfl, rfl, rfl, rfl⟩ := hb
  rfl
def anBO976 : Ann := ⟨[], []⟩
set_option maxHeartbeats 4000000 in
theorem compactA_spec (l : List Arc) :
  DSpec Tryz.prog (.func 76) [.osl 0 0] [⟨0, 0, .row 49 4 32 (l.map dArc)⟩] (dArcs (compL eqA l)) [] := by
 refine DSpec_introW [0] [] (fn := Tryz.f76) Tryz.func76 rfl Tryz.call76 (by simp [Tryz.ntmps76]) (by simp) (by simp) ?_
 intro hwf hwo B hnt
 have hA := an_is anBO976 Tryz.mixed (aj2 @anBO976.eq_1 Tryz.results76)
 simp only [argS]
 have hl : l.length ≤ 9223372036854775807 := by
  simp only [wfOwn, maxLen, List.length_map] at hwo
  omega
 clear hwo
 by_cases hl2 : l.length < 2
 ·have hcl : compL eqA l = l := by
   match l, hl2 with
   | [], _ => rfl
   | [x], _ => rfl
  exact go0 aj0 aj0 (aj2 hl2 hcl)
 have hl2' : ¬ (l.length : Int) < 2 := by omega
 obtain ⟨R0, hR0⟩ : ∃ R0, R0 = compL eqA l := ⟨_, rfl⟩
 rw [← hR0]
 (refine go1 aj0 aj0 (aj2 hl2 hl2') ?_; intros; refine mk_i ?_)
 refine DW_loop (X := {k : Nat // 1 ≤ k ∧ k ≤ l.length ∧ compL eqA (l.take k) = l.take k}) (fun k => ⟨[(0, .osl 0 0), (3, .int .i64 k.1)], [⟨0, 0, .row 49 4 32 (l.map dArc)⟩]⟩) (fun k => l.length - k.1) ⟨1, by
  obtain ⟨x, t, rfl⟩ : ∃ x t, l = x :: t := by
   cases l with
   | nil => simp at hl2
   | cons x t => exact ⟨x, t, rfl⟩
  simp [compL, compGo]⟩ (Sub.lit (by simp)) ?_
 rintro ⟨k, hk1, hk, hck⟩
 by_cases hlt : k < l.length
 ·obtain ⟨q, hq, hq', hqm⟩ := at_lt' hlt
  obtain ⟨p, hp, hp', hpm⟩ := at_lt' (show k - 1 < l.length by omega)
  have hwr : IntKind.i64.wrap ((k : Int) - 1) = (k : Int) - 1 := wrap64_in (by omega) (by omega)
  have hk0 : ((k : Int) - 1).toNat = k - 1 := by omega
  have hs := compL_snoc (e := eqA) (by omega) hp hq
  have hb1 : (0 : Int) ≤ (k : Int) - 1 := by omega
  have hb2 : (k : Int) - 1 < l.length := by omega
  cases hepq : eqA q p
  ·rw [hepq] at hs
   simp only [Bool.false_eq_true, if_false] at hs
   have he2 : (q.fr == p.fr && (q.sy.label == p.sy.label && (q.sy.n == p.sy.n && q.to == p.to))) = false := arc_ne (eqA_ne hepq)
   (refine go1 aj0 aj0 (aj11 @dArc.eq_1 hlt hq' hp' hp hq hk0 hwr hb1 hb2 he2) ?_; intros; refine mk_i ?_)
   refine Again.mk ⟨k + 1, by omega, by omega, by rw [hs, hck, List.take_add_one, hq]; rfl⟩ (Sub.lit (by simp)) (by simp; omega)
   skip
  ·rw [hepq] at hs
   simp only [if_true, List.append_nil] at hs
   have he2 : (q.fr == p.fr && (q.sy.label == p.sy.label && (q.sy.n == p.sy.n && q.to == p.to))) = true := by rw [eqA_eq hepq]; simp
   (refine go1 aj0 aj0 (aj11 @dArc.eq_1 hlt hq' hp' hp hq hk0 hwr hb1 hb2 he2) ?_; intros; refine mk_i ?_)
   clear hwr hk0 hb1 hb2
   refine DW_loop (X := {x : Nat × Nat × List Arc // 1 ≤ x.1 ∧ k + x.1 ≤ l.length ∧ x.2.1 < k + x.1 ∧ k ≤ x.2.1 ∧ x.2.2.length = l.length ∧ x.2.2.take x.2.1 = compL eqA (l.take (k + x.1)) ∧ ∀ j, k + x.1 ≤ j + 1 → x.2.2[j]? = l[j]?}) (fun x => ⟨[(0, .osl 0 0), (3, .int .i64 x.1.2.1), (4, .vw 0 0 4 32 k (l.length - k)), (5, .int .i64 x.1.1)], [⟨0, 0, .row 49 4 32 (x.1.2.2.map dArc)⟩]⟩) (fun x => l.length - x.1.1)
    ⟨(1, k, l), show 1 ≤ 1 ∧ k + 1 ≤ l.length ∧ k < k + 1 ∧ k ≤ k ∧ l.length = l.length ∧ l.take k = compL eqA (l.take (k + 1)) ∧ (∀ j, k + 1 ≤ j + 1 → l[j]? = l[j]?) from ⟨by omega, by omega, by omega, by omega, rfl, by rw [hs, hck], fun _ _ => rfl⟩⟩ (Sub.lit (by simp)) ?_
   rintro ⟨⟨m, kk, R⟩, x1, x2, x3, x4, x5, x6, x7⟩
   simp only at x1 x2 x3 x4 x5 x6 x7 ⊢
   have hv : k + (l.length - k) ≤ l.length := by omega
   by_cases hm : m < l.length - k
   ·obtain ⟨y, hy, hy', hym⟩ := at_lt' (show k + m < l.length by omega)
    obtain ⟨z, hz, hz', hzm⟩ := at_lt' (show k + m - 1 < l.length by omega)
    obtain ⟨c0, hc0, _, _⟩ := at_lt' (show kk < R.length by omega)
    have hRy : R[k + m]? = some y := by rw [x7 _ (by omega)]; exact hy
    have hRz : R[k + (m - 1)]? = some z := by rw [x7 _ (by omega), show k + (m - 1) = k + m - 1 by omega]; exact hz
    have hRy' : R[k + m]'(by omega) = y := (List.getElem?_eq_some_iff.1 hRy).2
    have hRz' : R[k + (m - 1)]'(by omega) = z := (List.getElem?_eq_some_iff.1 hRz).2
    have hwr : IntKind.i64.wrap ((m : Int) - 1) = (m : Int) - 1 := wrap64_in (by omega) (by omega)
    have hk0 : ((m : Int) - 1).toNat = m - 1 := by omega
    have hb1 : (0 : Int) ≤ (m : Int) - 1 := by omega
    have hb2 : (m : Int) - 1 < ((l.length - k : Nat) : Int) := by omega
    have hs2 := compL_snoc (e := eqA) (by omega) hz hy
    rw [← x6] at hs2
    have hkk : kk < l.length := by omega
    cases heyz : eqA y z
    ·rw [heyz] at hs2
     simp only [Bool.false_eq_true, if_false] at hs2
     have he3 : (y.fr == z.fr && (y.sy.label == z.sy.label && (y.sy.n == z.sy.n && y.to == z.to))) = false := arc_ne (eqA_ne heyz)
     (refine go1 aj0 aj0 (aj15 @dArc.eq_1 hm hRy hRz hRy' hRz' hk0 hwr hb1 hb2 x5 hv hc0 hkk he3) ?_; intros; refine mk_i ?_)
     refine Again.mk ⟨(m + 1, kk + 1, R.set kk y), show 1 ≤ m + 1 ∧ k + (m + 1) ≤ l.length ∧ kk + 1 < k + (m + 1) ∧ k ≤ kk + 1 ∧ (R.set kk y).length = l.length ∧ (R.set kk y).take (kk + 1) = compL eqA (l.take (k + (m + 1))) ∧ (∀ j, k + (m + 1) ≤ j + 1 → (R.set kk y)[j]? = l[j]?) from ⟨by omega, by omega, by omega, by omega, by simp [x5], ?_, fun j hj => ?_⟩⟩ (Sub.lit ?_) (by simp; omega)
     ·rw [show k + (m + 1) = k + m + 1 by omega, hs2, List.take_add_one, List.getElem?_set_self (by omega), List.take_set_of_le (by omega)]
      rfl
     ·rw [List.getElem?_set_ne (by omega)]
      exact x7 j (by omega)
     ·have hm0 : mxR ((R.map dArc).set kk [.int .i64 y.fr, .bool y.sy.label, .int .i64 y.sy.n, .int .i64 y.to]) = 0 := by
       rw [show (R.map dArc).set kk [.int .i64 y.fr, .bool y.sy.label, .int .i64 y.sy.n, .int .i64 y.to] = (R.set kk y).map dArc by simp [List.map_set, dArc]]
       exact mx_dArcs _
      simp [List.map_set, dArc, hm0]
     skip
    ·rw [heyz] at hs2
     simp only [if_true, List.append_nil] at hs2
     have he3 : (y.fr == z.fr && (y.sy.label == z.sy.label && (y.sy.n == z.sy.n && y.to == z.to))) = true := by rw [eqA_eq heyz]; simp
     (refine go1 aj0 aj0 (aj15 @dArc.eq_1 hm hRy hRz hRy' hRz' hk0 hwr hb1 hb2 x5 hv hc0 hkk he3) ?_; intros; refine mk_i ?_)
     refine Again.mk ⟨(m + 1, kk, R), show 1 ≤ m + 1 ∧ k + (m + 1) ≤ l.length ∧ kk < k + (m + 1) ∧ k ≤ kk ∧ R.length = l.length ∧ R.take kk = compL eqA (l.take (k + (m + 1))) ∧ (∀ j, k + (m + 1) ≤ j + 1 → R[j]? = l[j]?) from ⟨by omega, by omega, by omega, by omega, x5, by rw [show k + (m + 1) = k + m + 1 by omega, hs2], fun j hj => x7 j (by omega)⟩⟩ (Sub.lit (by simp)) (by simp; omega)
     skip
   ·have hkm : k + m = l.length := by omega
    have hcl1 : (clearD (R.map dArc) kk (l.length - kk) [.int .i64 0, .bool false, .int .i64 0, .int .i64 0]).length = l.length := by simp [clearD]; omega
    have hcl2 : (clearD (R.map dArc) kk (l.length - kk) [.int .i64 0, .bool false, .int .i64 0, .int .i64 0]).take kk = R0.map dArc := by
     have e1 : l.take (k + m) = l := by rw [hkm, List.take_length]
     rw [e1] at x6
     rw [hR0, ← x6]
     simp only [clearD]
     rw [List.append_assoc, List.take_append_of_le_length (by simp; omega), List.take_take, Nat.min_self, List.map_take]
    have hkl : kk ≤ l.length := by omega
    exact go0 aj0 aj0 (aj6 hm x5 hv hcl1 hcl2 hkl)
 ·have hkk : k = l.length := by omega
  subst hkk
  rw [List.take_length] at hck
  rw [hck] at hR0
  exact go0 aj0 aj0 (aj1 hR0)

theorem sortFA_spec (l : List Arc) : DSpec Tryz.prog (.func 73) [.osl 0 0, .fn (.func 74) [] []] [⟨0, 0, .row 49 4 32 (l.map dArc)⟩] (.tup []) [⟨0, 0, .row 49 4 32 ((sortC arcC l).map dArc)⟩] := by
 obtain ⟨un, hun⟩ : ∃ un : List DVal → Arc, ∀ e, un (dArc e) = e := ⟨fun d => match d with | [.int _ a, .bool b, .int _ c, .int _ e] => ⟨a, ⟨b, c⟩, e⟩ | _ => ⟨0, ⟨false, 0⟩, 0⟩, fun e => rfl⟩
 have hmem : ∀ x ∈ l.map dArc, ∃ p ∈ l, x = dArc p := fun x hx => by
  obtain ⟨p, hp, rfl⟩ := List.mem_map.1 hx
  exact ⟨p, hp, rfl⟩
 refine sort_spec (cf := fun x y => arcC (un x) (un y)) Tryz.sortFArc (by rfl) Tryz.call73 (by kernel_rfl) (by kernel_rfl) (by decide) rfl ?_ Tryz.call74 ?_ ?_ ?_ ?_ ?_
 ·intro x hx
  obtain ⟨p, _, rfl⟩ := hmem x hx
  simp
 ·intro x hx y hy
  obtain ⟨p, _, rfl⟩ := hmem x hx
  obtain ⟨q, _, rfl⟩ := hmem y hy
  simp only [hun]
  exact @order16_pure tapeMode p q
 ·intro x _
  rw [ordArc.refl]; omega
 ·intro x _ y _ z _; exact ordArc.trans _ _ _
 ·intro x _ y _ z _; exact ordArc.ntrans _ _ _
 ·intro L hp hs
  exact uniq_rows ordArc hun hp hs
end Go.Proofs.YtdgocjbakjamaaaGreat
end

section
set_option linter.unusedSectionVars false
/- boxes by definition: arcs put in their places -/



set_option linter.unusedSimpArgs false
set_option linter.unusedVariables false
namespace Go.Proofs.YtdgocjbakjamaaaGreat
open Go Go.Dm
variable [DMode]
attribute [local irreducible] DW callP callS
set_option maxRecDepth 100000

def anRB5149 : Ann := ⟨[], []⟩
set_option maxHeartbeats 4000000 in
theorem insertA_pure (l : List Arc) (p : Arc) (hsz : (l.length + 1) * 32 ≤ 150000000000000) : DPure Tryz.prog 149 [dArcs l, .agg (dArc p)] (dArcs (insC arcC l p)) := by
 refine DPure_introF [50] (fn := Tryz.f149) Tryz.func149 rfl Tryz.call149 (by simp [Tryz.ntmps149]) (by simp [mx]) ?_
 intro hwf B hnt
 simp only [Tryz.ntmps149] at hnt
 have hA := an_is anRB5149 Tryz.mixed (aj2 @anRB5149.eq_1 Tryz.results149)
 clear hwf
 simp only [argS]
 obtain ⟨r, hr⟩ : ∃ r, r = insC arcC l p := ⟨_, rfl⟩
 rw [← hr]
 (refine go1 aj0 aj0 (aj1 @dArc.eq_1) ?_; intros; refine mk_i ?_)
 refine DW_adoptS 5 50 49 4 32 (by simp [hnt, Tryz.results149, anRB5149]) (fun n => ?_)
 refine DW_loop (X := {x : Nat × Bool × List Arc // x.1 ≤ l.length ∧ x.2.2.length ≤ x.1 + (if x.2.1 then 1 else 0) ∧ x.2.2 ++ (if x.2.1 then l.drop x.1 else insC arcC (l.drop x.1) p) = r}) (fun x => ⟨[(0, dArcs l), (1, .agg (dArc p)), (3, .ref (dArc p)), (5, .osl 50 1), (6, .bool x.1.2.1), (7, .int .i64 x.1.1)], [⟨50, 1, .row 49 4 32 (x.1.2.2.map dArc)⟩]⟩) (fun x => l.length - x.1.1) ⟨(0, false, []), by simp [hr]⟩ (Sub.lit (by simp [dArc])) ?_
 rintro ⟨⟨k, b, R⟩, hk, hR, hcc⟩
 simp only at hk hR hcc ⊢
 clear hr
 by_cases hlt : k < l.length
 ·obtain ⟨q, hq, hq', hqm⟩ := at_lt' hlt
  rw [List.drop_eq_getElem_cons hlt, hq'] at hcc
  cases b
  ·simp only [Bool.false_eq_true, if_false, insC, Nat.add_zero] at hR hcc
   have hz1 : (R.length + 1) * 32 ≤ 150000000000000 := Nat.le_trans (Nat.mul_le_mul_right 32 (by omega)) hsz
   have hz2 : R.length ≤ 9223372036854775806 := by omega
   have hz3 : (R.length + 1 + 1) * 32 ≤ 150000000000000 := Nat.le_trans (Nat.mul_le_mul_right 32 (by omega)) hsz
   have hz4 : R.length + 1 ≤ 9223372036854775806 := by omega
   have e1 := less17_pure q p
   rw [arcLess_eq] at e1
   simp only [dArc] at e1
   by_cases hc2 : ¬ arcC q p < 0
   ·rw [decide_eq_false hc2] at e1
    rw [if_neg hc2] at hcc
    by_cases he : q = p
    ·subst he
     rw [if_neg hc2] at hcc
     (refine go1 (aj1 e1) aj0 (aj8 @dArc.eq_1 hlt hq' hc2 hz1 hz2 hz3 hz4) ?_; intros; refine mk_i ?_)
     refine Again.mk ⟨(k + 1, true, R ++ [q]), show k + 1 ≤ l.length ∧ (R ++ [q]).length ≤ k + 1 + _ ∧ _ from ⟨by omega, by simp; omega, by simpa using hcc⟩⟩ (Sub.lit (by simp [dArc])) (by simp; omega)
     skip
    ·have he2 : (q.fr == p.fr && (q.sy.label == p.sy.label && (q.sy.n == p.sy.n && q.to == p.to))) = false := arc_ne he
     have hlp : arcC p q < 0 := by
      have h0 : arcC q p ≠ 0 := fun h => he ((ordArc.eq0 q p).1 h)
      exact (ordArc.anti p q).2 (by omega)
     rw [if_pos hlp] at hcc
     (refine go1 (aj1 e1) aj0 (aj9 @dArc.eq_1 hlt hq' hc2 he2 hz1 hz2 hz3 hz4) ?_; intros; refine mk_i ?_)
     refine Again.mk ⟨(k + 1, true, R ++ [p, q]), show k + 1 ≤ l.length ∧ (R ++ [p, q]).length ≤ k + 1 + _ ∧ _ from ⟨by omega, by simp; omega, by simpa using hcc⟩⟩ (Sub.lit (by simp [dArc])) (by simp; omega)
     skip
   ·have hc3 : arcC q p < 0 := by omega
    rw [decide_eq_true hc3] at e1
    rw [if_pos hc3] at hcc
    (refine go1 (aj1 e1) aj0 (aj8 @dArc.eq_1 hlt hq' hc2 hz1 hz2 hz3 hz4) ?_; intros; refine mk_i ?_)
    refine Again.mk ⟨(k + 1, false, R ++ [q]), show k + 1 ≤ l.length ∧ (R ++ [q]).length ≤ k + 1 + _ ∧ _ from ⟨by omega, by simp; omega, by simpa using hcc⟩⟩ (Sub.lit (by simp [dArc])) (by simp; omega)
    skip
  ·simp only [if_true] at hR hcc
   have hz1 : (R.length + 1) * 32 ≤ 150000000000000 := Nat.le_trans (Nat.mul_le_mul_right 32 (by omega)) hsz
   have hz2 : R.length ≤ 9223372036854775806 := by omega
   (repeat (first | refine DW_seq fun K hK => ?_ | (refine DW_r anRB5149 Tryz.mixed (by kernel_rfl) ?_; simp [anRB5149, hnt, dArc, hlt, hq', hz1, hz2]; try simp (disch := omega) only [wrap64_in]) | refine DW_block ?_ | (refine DW_if ?_ ?_ ?_; (· (simp [hnt, dArc, hlt, hq', hz1, hz2]; done)); (try (rotate_left; (· (intro hc; (try simp [hnt, dArc, hlt, hq', hz1, hz2] at hc); done))))) | (refine DW_ret ?_; simp [Tryz.results149, hnt, dArc, hlt, hq', hz1, hz2]) | ((first | refine DW_exit ?_ | refine DW_skip ?_); simp [hnt, dArc, hlt, hq', hz1, hz2]) | (intro hc; (try simp [hnt, dArc, hlt, hq', hz1, hz2] at hc); (try (exfalso; omega))) | ((first | refine callP_mk (e1) ?_ | (refine callP_wk (e1) ?_ ?_; (· (simp; done)))); try simp [hnt, dArc, hlt, hq', hz1, hz2]) | (refine ⟨?_, ?_⟩; · omega) | omega | apply_assumption -exfalso -symm | (exfalso; omega)))
   refine Again.mk ⟨(k + 1, true, R ++ [q]), show k + 1 ≤ l.length ∧ (R ++ [q]).length ≤ k + 1 + _ ∧ _ from ⟨by omega, by simp; omega, by simpa using hcc⟩⟩ (Sub.lit (by simp [dArc])) (by simp; omega)
   skip
 ·have hk' : k = l.length := by omega
  subst hk'
  rw [List.drop_length] at hcc
  cases b
  ·simp only [Bool.false_eq_true, if_false, insC, Nat.add_zero] at hR hcc
   subst hcc
   have hz1 : (R.length + 1) * 32 ≤ 150000000000000 := Nat.le_trans (Nat.mul_le_mul_right 32 (by omega)) hsz
   have hz2 : R.length ≤ 9223372036854775806 := by omega
   (repeat (first | refine DW_seq fun K hK => ?_ | (refine DW_r anRB5149 Tryz.mixed (by kernel_rfl) ?_; simp [anRB5149, hnt, dArc, hz1, hz2]; try simp (disch := omega) only [wrap64_in]) | refine DW_block ?_ | (refine DW_if ?_ ?_ ?_; (· (simp [hnt, dArc, hz1, hz2]; done)); (try (rotate_left; (· (intro hc; (try simp [hnt, dArc, hz1, hz2] at hc); done))))) | (refine DW_ret ?_; simp [Tryz.results149, hnt, dArc, hz1, hz2]) | ((first | refine DW_exit ?_ | refine DW_skip ?_); simp [hnt, dArc, hz1, hz2]) | (intro hc; (try simp [hnt, dArc, hz1, hz2] at hc); (try (exfalso; omega))) | ((first | refine callP_mk (e1) ?_ | (refine callP_wk (e1) ?_ ?_; (· (simp; done)))); try simp [hnt, dArc, hz1, hz2]) | (refine ⟨?_, ?_⟩; · omega) | omega | apply_assumption -exfalso -symm | (exfalso; omega)))
  ·simp only [if_true, List.append_nil] at hR hcc
   subst hcc
   (repeat (first | refine DW_seq fun K hK => ?_ | (refine DW_r anRB5149 Tryz.mixed (by kernel_rfl) ?_; simp [anRB5149, hnt, dArc]; try simp (disch := omega) only [wrap64_in]) | refine DW_block ?_ | (refine DW_if ?_ ?_ ?_; (· (simp [hnt, dArc]; done)); (try (rotate_left; (· (intro hc; (try simp [hnt, dArc] at hc); done))))) | (refine DW_ret ?_; simp [Tryz.results149, hnt, dArc]) | ((first | refine DW_exit ?_ | refine DW_skip ?_); simp [hnt, dArc]) | (intro hc; (try simp [hnt, dArc] at hc); (try (exfalso; omega))) | ((first | refine callP_mk (e1) ?_ | (refine callP_wk (e1) ?_ ?_; (· (simp; done)))); try simp [hnt, dArc]) | (refine ⟨?_, ?_⟩; · omega) | omega | apply_assumption -exfalso -symm | (exfalso; omega)))
end Go.Proofs.YtdgocjbakjamaaaGreat
end

section
set_option linter.unusedSectionVars false
/- boxes by definition: the arcs of one body -/




set_option linter.unusedSimpArgs false
set_option linter.unusedVariables false
namespace Go.Proofs.YtdgocjbakjamaaaGreat
open Go Go.Dm
variable [DMode]
attribute [local irreducible] DW callP callS
set_option maxRecDepth 100000

theorem insC_len {α : Type} (c : α → α → Int) : ∀ (l : List α) (p : α), (insC c l p).length ≤ l.length + 1
 | [], p => by simp [insC]
 | x :: l, p => by
  have := insC_len c l p
  unfold insC
  split
  ·simp; omega
  ·split
   ·simp
   ·simp
def insA (Z E : List Arc) : List Arc := E.foldl (insC arcC) Z
theorem insA_nil (Z : List Arc) : insA Z [] = Z := rfl
theorem insA_app (Z E F : List Arc) : insA Z (E ++ F) = insA (insA Z E) F := by unfold insA; rw [List.foldl_append]
theorem insA_len (Z : List Arc) : ∀ E : List Arc, (insA Z E).length ≤ Z.length + E.length := by
 intro E
 induction E generalizing Z with
 | nil => simp [insA]
 | cons x E ih =>
  have h1 := ih (insC arcC Z x)
  have h2 := insC_len arcC Z x
  have h3 : insA Z (x :: E) = insA (insC arcC Z x) E := rfl
  rw [h3, List.length_cons]
  omega
def oneA (b : Bool) (x : Arc) : List Arc := if b = true then [x] else []
theorem oneA_len (b : Bool) (x : Arc) : (oneA b x).length ≤ 1 := by unfold oneA; split <;> simp
def rowA (sy : Nd → Sym) (ah : Nat) (t : RT) (q : Nat) (ps : List Nat) : List Arc := ps.flatMap fun p => oneA (foT t 0 p q) ⟨(num (flat t) ah p : Int), sy (nd (flat t) q), (num (flat t) ah q : Int)⟩
theorem rowA_snoc (sy : Nd → Sym) (ah : Nat) (t : RT) (q : Nat) (ps : List Nat) (p : Nat) : rowA sy ah t q (ps ++ [p]) = rowA sy ah t q ps ++ oneA (foT t 0 p q) ⟨(num (flat t) ah p : Int), sy (nd (flat t) q), (num (flat t) ah q : Int)⟩ := by simp [rowA]
theorem rowA_nil (sy : Nd → Sym) (ah : Nat) (t : RT) (q : Nat) : rowA sy ah t q [] = [] := rfl
theorem rowA_len (sy : Nd → Sym) (ah : Nat) (t : RT) (q : Nat) : ∀ ps : List Nat, (rowA sy ah t q ps).length ≤ ps.length
 | [] => by simp [rowA]
 | p :: ps => by
  have h1 : rowA sy ah t q (p :: ps) = oneA (foT t 0 p q) ⟨(num (flat t) ah p : Int), sy (nd (flat t) q), (num (flat t) ah q : Int)⟩ ++ rowA sy ah t q ps := rfl
  have h2 := oneA_len (foT t 0 p q) ⟨(num (flat t) ah p : Int), sy (nd (flat t) q), (num (flat t) ah q : Int)⟩
  have h3 := rowA_len sy ah t q ps
  rw [h1, List.length_append, List.length_cons]
  omega
theorem arcsQ_eq (sy : Nd → Sym) (ah : Nat) (t : RT) (q : Nat) : arcsQ sy ah t q = oneA (bgT t 0 q) ⟨0, sy (nd (flat t) q), (num (flat t) ah q : Int)⟩ ++ rowA sy ah t q (plN (flat t) (flat t).length) := rfl
def bodyA (sy : Nd → Sym) (ah : Nat) (t : RT) (ps : List Nat) : List Arc := ps.flatMap (arcsQ sy ah t)
theorem bodyA_snoc (sy : Nd → Sym) (ah : Nat) (t : RT) (ps : List Nat) (q : Nat) : bodyA sy ah t (ps ++ [q]) = bodyA sy ah t ps ++ arcsQ sy ah t q := by simp [bodyA]
theorem bodyA_nil (sy : Nd → Sym) (ah : Nat) (t : RT) : bodyA sy ah t [] = [] := rfl
theorem bodyA_len (sy : Nd → Sym) (ah : Nat) (t : RT) (h : (plN (flat t) (flat t).length).length ≤ 64) : ∀ ps : List Nat, (bodyA sy ah t ps).length ≤ 65 * ps.length
 | [] => by simp [bodyA]
 | q :: ps => by
  have h1 : bodyA sy ah t (q :: ps) = arcsQ sy ah t q ++ bodyA sy ah t ps := rfl
  have h3 := bodyA_len sy ah t h ps
  have h4 := oneA_len (bgT t 0 q) ⟨0, sy (nd (flat t) q), (num (flat t) ah q : Int)⟩
  have h5 := rowA_len sy ah t q (plN (flat t) (flat t).length)
  rw [h1, arcsQ_eq, List.length_append, List.length_append, List.length_cons]
  omega
def syG (g : List Rul) : Nd → Sym := symS (headsL g) (labelsL' g)
def anRB679 : Ann := ⟨[], [⟨5, [11], [], []⟩]⟩
set_option maxHeartbeats 8000000 in
theorem add79_pure (g : List Rul) (t : RT) (ah : Nat) (Z : List Arc) (ht : okT t = true) (hs : (flat t).length ≤ 2048) (h64 : ah + (lvs (flat t)).length ≤ 64) (hn : ((namesK 3 g).length + 1) * 16 ≤ 150000000000000) (hZ : (Z.length + 5000) * 32 ≤ 150000000000000) :
  DPure Tryz.prog 79 [dRuls g, dNds (flat t), .int .i64 ah, dArcs Z] (dArcs (insA Z (bodyA (syG g) ah t (plN (flat t) (flat t).length)))) := by
 obtain ⟨l, hl⟩ : ∃ l, l = flat t := ⟨_, rfl⟩
 have ep := places80_pure l
 have hpl : (plN l l.length).length ≤ 64 := by
  rw [plN_len (Nat.le_refl _), rkN_all, hl]
  omega
 have hprk : ∀ j p, (plN l l.length)[j]? = some p → rkN l p = j := fun j p h => plN_rank (Nat.le_refl _) h
 have hpin : ∀ p ∈ plN l l.length, ∃ x, l[p]? = some x := fun p h => by
  obtain ⟨x, hx, _⟩ := mem_plN.1 h
  exact ⟨x, hx⟩
 have eS := fun x => rsym147_pure g x hn
 have hat : At (flat t) 0 t := At.top ht
 have eB : ∀ q : Nat, DPure Tryz.prog 148 [dNds l, .int .i64 0, .int .i64 q] (.bool (bgT t 0 q)) := fun q => by rw [hl]; exact begins148_pure q _ t (flat t) 0 rfl hat (by omega)
 have eF : ∀ p q : Nat, DPure Tryz.prog 150 [dNds l, .int .i64 0, .int .i64 p, .int .i64 q] (.bool (foT t 0 p q)) := fun p q => by rw [hl]; exact follows150_pure p q _ t (flat t) 0 rfl hat (by omega)
 have hbl := bodyA_len (syG g) ah t (by rw [← hl]; exact hpl)
 have hrl := rowA_len (syG g) ah t
 have hrs := rowA_snoc (syG g) ah t
 have hbs := bodyA_snoc (syG g) ah t
 have hq := arcsQ_eq (syG g) ah t
 rw [← hl] at hq
 simp only [← hl] at hrs
 rw [← hl]
 obtain ⟨ps, hps⟩ : ∃ ps, ps = plN l l.length := ⟨_, rfl⟩
 rw [← hps] at ep hpl hprk hpin hq ⊢
 clear hps hat
 obtain ⟨R, hR⟩ : ∃ R, R = insA Z (bodyA (syG g) ah t ps) := ⟨_, rfl⟩
 rw [← hR]
 refine DPure_introF [] (fn := Tryz.f79) Tryz.func79 rfl Tryz.call79 (by simp [Tryz.ntmps79]) (by simp [mx]) ?_
 intro hwf B hnt
 simp only [Tryz.ntmps79] at hnt
 have hA := an_is anRB679 Tryz.mixed (aj2 @anRB679.eq_1 Tryz.results79)
 clear hwf
 simp only [argS]
 (refine go1 (aj1 ep) aj0 aj0 ?_; intros; refine mk_i ?_)
 refine DW_loop (X := {j : Nat // j ≤ ps.length}) (fun j => ⟨[(0, dRuls g), (1, dNds l), (2, .int .i64 ah), (3, dArcs (insA Z (bodyA (syG g) ah t (ps.take j.1)))), (9, dNats ps), (10, .int .i64 j.1)], []⟩) (fun j => ps.length - j.1) ⟨0, by omega⟩ (Sub.lit (by simp [bodyA_nil, insA_nil])) ?_
 rintro ⟨j, hj⟩
 simp only
 by_cases hlt : j < ps.length
 ·obtain ⟨q, hq0, hq0', hqm⟩ := at_lt' hlt
  obtain ⟨x, hx⟩ := hpin q hqm
  have hx' := (List.getElem?_eq_some_iff.1 hx).2
  have hxl := (List.getElem?_eq_some_iff.1 hx).1
  have hrk := hprk j q hq0
  have hnum : (num l ah q : Int) = (ah : Int) + (j : Int) + 1 := by unfold num; omega
  have hnd := nd_at hx
  have e1 := eS x
  have e2 := eB q
  have hb1 := hbs (ps.take j) q
  rw [← take_snoc hq0, hq q] at hb1
  rw [hl] at hnd hnum
  have hlen := insA_len Z (bodyA (syG g) ah t (ps.take j))
  have hbl1 := hbl (ps.take j)
  rw [List.length_take] at hbl1
  obtain ⟨y, hy⟩ : ∃ y, y = symS (headsL g) (labelsL' g) x := ⟨_, rfl⟩
  have hyx : syG g x = y := hy.symm
  rw [← hy] at e1
  simp only [dNd, dSym] at e1
  obtain ⟨N, hN⟩ : ∃ N : Int, N = (ah : Int) + (j : Int) + 1 := ⟨_, rfl⟩
  have hwj1 : IntKind.i64.wrap ((ah : Int) + (j : Int)) = (ah : Int) + (j : Int) := wrap64_in (by omega) (by omega)
  have hwj2 : IntKind.i64.wrap ((ah : Int) + (j : Int) + 1) = N := by rw [hN]; exact wrap64_in (by omega) (by omega)
  rw [← hl] at hnd hnum
  have hin0 := insA_app Z (bodyA (syG g) ah t (ps.take j))
  obtain ⟨Z0, hZ0⟩ : ∃ Z0, Z0 = insA Z (bodyA (syG g) ah t (ps.take j)) := ⟨_, rfl⟩
  rw [← hZ0] at hlen hin0 ⊢
  have e3 := insertA_pure Z0 ⟨0, y, (ah : Int) + (j : Int) + 1⟩ (by omega)
  simp only [dArc] at e3
  rw [← hN] at e3
  rw [hnd, hyx, hnum, ← hN] at hb1
  cases hd0 : bgT t 0 q
  ·rw [hd0] at e2 hb1
   obtain ⟨Z1, hZc⟩ : ∃ Z1, Z1 = Z0 := ⟨_, rfl⟩
   have hl1 : Z1.length ≤ Z0.length + 1 := by rw [hZc]; omega
   have hZ1 : insA Z1 (rowA (syG g) ah t q ps) = insA Z (bodyA (syG g) ah t (ps.take (j + 1))) := by rw [hb1, hin0, insA_app, hZc]; rfl
   (refine go1 (aj2 e1 e2) aj0 (aj10 @dNd.eq_1 hlt hq0 hq0' hx hx' hxl @natD.eq_1 hwj1 hwj2) ?_; intros; refine mk_i ?_)
   refine DW_loop (X := {i : Nat // i ≤ ps.length}) (fun i => ⟨[(0, dRuls g), (1, dNds l), (2, .int .i64 ah), (3, dArcs (insA Z1 (rowA (syG g) ah t q (ps.take i.1)))), (9, dNats ps), (10, .int .i64 j), (11, .ref (dSym y)), (13, .int .i64 N), (14, .int .i64 i.1)], []⟩) (fun i => ps.length - i.1) ⟨0, by omega⟩ (Sub.lit (by simp [rowA_nil, insA_nil, dSym, ← hZc])) ?_
   rintro ⟨i, hi⟩
   simp only
   by_cases hlt2 : i < ps.length
   ·obtain ⟨p, hp0, hp0', hpm⟩ := at_lt' hlt2
    have hrk2 := hprk i p hp0
    have hnum2 : (num l ah p : Int) = (ah : Int) + (i : Int) + 1 := by unfold num; omega
    have e4 := eF p q
    have hb2 := hrs q (ps.take i) p
    rw [← take_snoc hp0, hnd, hyx, hnum, hnum2] at hb2
    have hl2 := insA_len Z1 (rowA (syG g) ah t q (ps.take i))
    have hrl1 := hrl q (ps.take i)
    rw [List.length_take] at hrl1
    have hin := insA_app Z1 (rowA (syG g) ah t q (ps.take i))
    obtain ⟨Z2, hZ2⟩ : ∃ Z2, Z2 = insA Z1 (rowA (syG g) ah t q (ps.take i)) := ⟨_, rfl⟩
    rw [← hZ2] at hl2 hin ⊢
    have e5 := insertA_pure Z2 ⟨(ah : Int) + (i : Int) + 1, y, (ah : Int) + (j : Int) + 1⟩ (by omega)
    have hwi1 : IntKind.i64.wrap ((ah : Int) + (i : Int)) = (ah : Int) + (i : Int) := wrap64_in (by omega) (by omega)
    have hwi2 : IntKind.i64.wrap ((ah : Int) + (i : Int) + 1) = (ah : Int) + (i : Int) + 1 := wrap64_in (by omega) (by omega)
    simp only [dArc] at e5
    rw [← hN] at e5 hb2
    cases hd : foT t 0 p q
    ·rw [hd] at e4 hb2
     have h9 : insA Z1 (rowA (syG g) ah t q (ps.take (i + 1))) = Z2 := by rw [hb2, hin]; rfl
     (refine go1 (aj2 e4 e5) aj0 (aj7 hlt2 hp0 hp0' hq0 hq0' hlt @natD.eq_1) ?_; intros; refine mk_i ?_)
     refine Again.mk ⟨i + 1, by omega⟩ (Sub.lit (by simp [h9])) (by simp; omega)
     skip
    ·rw [hd] at e4 hb2
     have h9 : insA Z1 (rowA (syG g) ah t q (ps.take (i + 1))) = insC arcC Z2 ⟨(ah : Int) + (i : Int) + 1, y, N⟩ := by rw [hb2, hin]; rfl
     (refine go1 (aj2 e4 e5) aj0 (aj10 hlt2 hp0 hp0' hq0 hq0' hlt @natD.eq_1 hwi1 hwi2 @dSym.eq_1) ?_; intros; refine mk_i ?_)
     refine Again.mk ⟨i + 1, by omega⟩ (Sub.lit (by simp [h9])) (by simp; omega)
     skip
   ·have hkk : i = ps.length := by omega
    subst hkk
    rw [List.take_length, hZ1]
    (refine go1 aj0 aj0 aj0 ?_; intros; refine mk_i ?_)
    refine Again.mk ⟨j + 1, by omega⟩ (Sub.lit (by simp)) (by simp; omega)
    skip
  ·rw [hd0] at e2 hb1
   obtain ⟨Z1, hZc⟩ : ∃ Z1, Z1 = insC arcC Z0 ⟨0, y, N⟩ := ⟨_, rfl⟩
   have hl1 : Z1.length ≤ Z0.length + 1 := by rw [hZc]; exact insC_len _ _ _
   have hZ1 : insA Z1 (rowA (syG g) ah t q ps) = insA Z (bodyA (syG g) ah t (ps.take (j + 1))) := by rw [hb1, hin0, insA_app, hZc]; rfl
   (refine go1 (aj3 e1 e2 e3) aj0 (aj11 @dNd.eq_1 @dSym.eq_1 hlt hq0 hq0' hx hx' hxl @natD.eq_1 hwj1 hwj2) ?_; intros; refine mk_i ?_)
   refine DW_loop (X := {i : Nat // i ≤ ps.length}) (fun i => ⟨[(0, dRuls g), (1, dNds l), (2, .int .i64 ah), (3, dArcs (insA Z1 (rowA (syG g) ah t q (ps.take i.1)))), (9, dNats ps), (10, .int .i64 j), (11, .ref (dSym y)), (13, .int .i64 N), (14, .int .i64 i.1)], []⟩) (fun i => ps.length - i.1) ⟨0, by omega⟩ (Sub.lit (by simp [rowA_nil, insA_nil, dSym, ← hZc])) ?_
   rintro ⟨i, hi⟩
   simp only
   by_cases hlt2 : i < ps.length
   ·obtain ⟨p, hp0, hp0', hpm⟩ := at_lt' hlt2
    have hrk2 := hprk i p hp0
    have hnum2 : (num l ah p : Int) = (ah : Int) + (i : Int) + 1 := by unfold num; omega
    have e4 := eF p q
    have hb2 := hrs q (ps.take i) p
    rw [← take_snoc hp0, hnd, hyx, hnum, hnum2] at hb2
    have hl2 := insA_len Z1 (rowA (syG g) ah t q (ps.take i))
    have hrl1 := hrl q (ps.take i)
    rw [List.length_take] at hrl1
    have hin := insA_app Z1 (rowA (syG g) ah t q (ps.take i))
    obtain ⟨Z2, hZ2⟩ : ∃ Z2, Z2 = insA Z1 (rowA (syG g) ah t q (ps.take i)) := ⟨_, rfl⟩
    rw [← hZ2] at hl2 hin ⊢
    have e5 := insertA_pure Z2 ⟨(ah : Int) + (i : Int) + 1, y, (ah : Int) + (j : Int) + 1⟩ (by omega)
    have hwi1 : IntKind.i64.wrap ((ah : Int) + (i : Int)) = (ah : Int) + (i : Int) := wrap64_in (by omega) (by omega)
    have hwi2 : IntKind.i64.wrap ((ah : Int) + (i : Int) + 1) = (ah : Int) + (i : Int) + 1 := wrap64_in (by omega) (by omega)
    simp only [dArc] at e5
    rw [← hN] at e5 hb2
    cases hd : foT t 0 p q
    ·rw [hd] at e4 hb2
     have h9 : insA Z1 (rowA (syG g) ah t q (ps.take (i + 1))) = Z2 := by rw [hb2, hin]; rfl
     (refine go1 (aj2 e4 e5) aj0 (aj7 hlt2 hp0 hp0' hq0 hq0' hlt @natD.eq_1) ?_; intros; refine mk_i ?_)
     refine Again.mk ⟨i + 1, by omega⟩ (Sub.lit (by simp [h9])) (by simp; omega)
     skip
    ·rw [hd] at e4 hb2
     have h9 : insA Z1 (rowA (syG g) ah t q (ps.take (i + 1))) = insC arcC Z2 ⟨(ah : Int) + (i : Int) + 1, y, N⟩ := by rw [hb2, hin]; rfl
     (refine go1 (aj2 e4 e5) aj0 (aj10 hlt2 hp0 hp0' hq0 hq0' hlt @natD.eq_1 hwi1 hwi2 @dSym.eq_1) ?_; intros; refine mk_i ?_)
     refine Again.mk ⟨i + 1, by omega⟩ (Sub.lit (by simp [h9])) (by simp; omega)
     skip
   ·have hkk : i = ps.length := by omega
    subst hkk
    rw [List.take_length, hZ1]
    (refine go1 aj0 aj0 aj0 ?_; intros; refine mk_i ?_)
    refine Again.mk ⟨j + 1, by omega⟩ (Sub.lit (by simp)) (by simp; omega)
    skip
 ·have hkk : j = ps.length := by omega
  subst hkk
  rw [List.take_length, ← hR]
  exact go0 aj0 aj0 aj0
end Go.Proofs.YtdgocjbakjamaaaGreat
end

section
set_option linter.unusedSectionVars false
/- Boxes: bodies in a row: what is asked of them, and how much they make. -/



set_option linter.unusedSimpArgs false
set_option linter.unusedVariables false
namespace Go.Proofs.YtdgocjbakjamaaaGreat
open Go Go.Dm
variable [DMode]

theorem body_check (l : List Nd) : ∃ c : Int, DPure Tryz.prog 67 [dNds l] (.int .i64 c) ∧ DPure Tryz.prog 145 [dNds l] (.int .i64 c) ∧ (c = 0 → l.length ≤ 2048 ∧ ∃ t, okT t = true ∧ l = flat t) := by
 by_cases h : 2048 < l.length
 ·exact ⟨3, check23_long l h, rcheck145_long l h, by omega⟩
 ·cases hw : wholeB l with
  | false => exact ⟨170, check23_bad l (by omega) hw, rcheck145_bad l (by omega) hw, by omega⟩
  | true =>
   obtain ⟨t, ht, rfl⟩ := whole_tree hw
   exact ⟨boundI t, check23_tree t ht (by omega), rcheck145_tree t ht (by omega), fun _ => ⟨by omega, t, ht, rfl⟩⟩
noncomputable def bodyC (l : List Nd) : Int := Classical.choose (body_check l)
theorem bodyC_p (l : List Nd) : DPure Tryz.prog 67 [dNds l] (.int .i64 (bodyC l)) := (Classical.choose_spec (body_check l)).1
theorem bodyC_r (l : List Nd) : DPure Tryz.prog 145 [dNds l] (.int .i64 (bodyC l)) := (Classical.choose_spec (body_check l)).2.1
theorem bodyC_0 {l : List Nd} (h : bodyC l = 0) : l.length ≤ 2048 ∧ ∃ t, okT t = true ∧ l = flat t := (Classical.choose_spec (body_check l)).2.2 h
noncomputable def errF : List (List Nd) → Int
 | [] => 0
 | l :: ls => if bodyC l = 0 then errF ls else bodyC l
theorem errF_trees : ∀ {ls : List (List Nd)}, errF ls = 0 → ∃ ts : List RT, ls = ts.map flat ∧ ∀ t ∈ ts, okT t = true ∧ (flat t).length ≤ 2048
 | [], _ => ⟨[], rfl, by simp⟩
 | l :: ls, h => by
  unfold errF at h
  split at h
  ·rename_i h1
   obtain ⟨h2, t, h3, h4⟩ := bodyC_0 h1
   obtain ⟨ts, h5, h6⟩ := errF_trees h
   refine ⟨t :: ts, by rw [h5, h4]; rfl, fun u hu => ?_⟩
   rcases List.mem_cons.1 hu with rfl | hu
   ·exact ⟨h3, by rw [← h4]; exact h2⟩
   ·exact h6 u hu
  ·rename_i h1; exact absurd h h1
def bad4 (H L : List ByteArray) (l : List Nd) : Bool := l.any fun x => decide (symE H L x = 4)
def rowB (l : List Nd) : List DVal := [dNds l]
@[simp] theorem mx_rowB (l : List Nd) : mxL (rowB l) = 0 := by simp [rowB, mxL, mx]
@[simp] theorem mx_rowBs (l : List (List Nd)) : mxR (l.map rowB) = 0 := mxR0 _ mx_rowB l
def occS (ls : List (List Nd)) : Nat := (ls.map occN).sum
theorem occS_snoc (ls : List (List Nd)) (l : List Nd) : occS (ls ++ [l]) = occS ls + occN l := by simp [occS]
theorem occS_nil : occS [] = 0 := rfl
theorem occS_trees : ∀ ts : List RT, occS (ts.map flat) = (lvL ts).length
 | [] => by simp [occS, lvL]
 | t :: ts => by
  have ih := occS_trees ts
  have h1 : lvL (t :: ts) = lvs (flat t) ++ lvL ts := by simp [lvL]
  have h2 : occS (List.map flat (t :: ts)) = occN (flat t) + occS (ts.map flat) := by simp [occS]
  rw [h2, h1, List.length_append, ih, occN_lvs]
theorem occS_le : ∀ (ts : List RT), (∀ t ∈ ts, (flat t).length ≤ 2048) → occS (ts.map flat) ≤ 2048 * ts.length
 | [], _ => by simp [occS]
 | t :: ts, h => by
  have ih := occS_le ts fun u hu => h u (List.mem_cons_of_mem _ hu)
  have h1 := h t List.mem_cons_self
  have h2 : occS (List.map flat (t :: ts)) = occN (flat t) + occS (ts.map flat) := by simp [occS]
  have h3 : occN (flat t) ≤ (flat t).length := by rw [occN_lvs]; exact List.length_filter_le _ _
  rw [h2, List.length_cons]
  omega
theorem occS_take {ls : List (List Nd)} {k : Nat} : occS (ls.take k) ≤ occS ls := by
 have h1 : occS ls = occS (ls.take k) + occS (ls.drop k) := by
  unfold occS
  rw [← List.sum_append_nat, ← List.map_append, List.take_append_drop]
 omega
theorem arT_few (t : RT) (h : (flat t).length ≤ 2048) (h64 : (lvs (flat t)).length ≤ 64) : (arT t 0).length ≤ 16777216 * (lvs (flat t)).length := by
 by_cases h0 : (lvs (flat t)).length = 0
 ·have : arT t 0 = [] := by
   cases ha : arT t 0 with
   | nil => rfl
   | cons p r =>
    exfalso
    obtain ⟨⟨x, hx, hk⟩, _⟩ := arT_leaf t 0 p.1 p.2 (by rw [ha]; exact List.mem_cons_self)
    have h1 : x ∈ lvs (flat t) := by
     unfold lvs
     rw [List.mem_filter]
     exact ⟨List.mem_of_getElem? hx, isOcc_iff.2 hk⟩
    have := List.length_pos_of_mem h1
    omega
  rw [this]
  simp
 ·have := arT_len t 0 h64
  omega
theorem prL_few : ∀ (ts : List RT) (ah : Nat), (∀ t ∈ ts, (flat t).length ≤ 2048) → (lvL ts).length ≤ 64 → (prL ah ts).length ≤ 16777216 * (lvL ts).length
 | [], ah, _, _ => by simp [prL]
 | t :: ts, ah, h, h64 => by
  have h1 : lvL (t :: ts) = lvs (flat t) ++ lvL ts := by simp [lvL]
  rw [h1, List.length_append] at h64 ⊢
  have ih := prL_few ts (ah + (lvs (flat t)).length) (fun u hu => h u (List.mem_cons_of_mem _ hu)) (by omega)
  have h2 := arT_few t (h t List.mem_cons_self) (by omega)
  rw [prL, List.length_append, List.length_map]
  omega
theorem fiN_len : ∀ (ts : List RT) (ah : Nat), (fiN ah ts).length ≤ (lvL ts).length
 | [], ah => by simp [fiN]
 | t :: ts, ah => by
  have h1 : lvL (t :: ts) = lvs (flat t) ++ lvL ts := by simp [lvL]
  have ih := fiN_len ts (ah + (lvs (flat t)).length)
  have h2 := fiT_len t 0
  rw [fiN, h1, List.length_append, List.length_append, List.length_map]
  omega
theorem laN_len : ∀ (ts : List RT) (ah : Nat), (laN ah ts).length ≤ (lvL ts).length
 | [], ah => by simp [laN]
 | t :: ts, ah => by
  have h1 : lvL (t :: ts) = lvs (flat t) ++ lvL ts := by simp [lvL]
  have ih := laN_len ts (ah + (lvs (flat t)).length)
  have h2 := laT_len t 0
  rw [laN, h1, List.length_append, List.length_append, List.length_map]
  omega
theorem fiN_num : ∀ (ts : List RT) (ah : Nat), ∀ q ∈ fiN ah ts, 1 ≤ q ∧ q ≤ ah + (lvL ts).length
 | [], ah, q, h => by simp [fiN] at h
 | t :: ts, ah, q, h => by
  have h1 : lvL (t :: ts) = lvs (flat t) ++ lvL ts := by simp [lvL]
  rw [h1, List.length_append]
  rw [fiN, List.mem_append] at h
  rcases h with h | h
  ·have h2 : (flat t).drop 0 = flat t ++ [] := by simp
   have h3 := fi_num (ah := ah) h2 q h
   rw [rkN_step h2, rkN_zero] at h3
   omega
  ·have := fiN_num ts _ q h
   omega
def firN (us : List RT) : List Nat := fiN 0 us
def lasN (us : List RT) : List Nat := laN 0 us
def arcsN (SF : List Sym) (us : List RT) : List Arc := arcsJ SF (prL 0 us)
theorem syL_snoc (sy : Nd → Sym) (us : List RT) (t : RT) : syL sy (us ++ [t]) = syL sy us ++ (lvs (flat t)).map sy := by unfold syL; rw [lvL_snoc, List.map_append]
theorem syL_len (sy : Nd → Sym) (us : List RT) : (syL sy us).length = (lvL us).length := by simp [syL]
theorem syN_step (H L : List ByteArray) (us : List RT) (t : RT) : symsT H L (syL (symS H L) us) t = syL (symS H L) (us ++ [t]) := by unfold symsT; rw [syL_snoc]
theorem firN_step (us : List RT) (t : RT) : firN us ++ firT (flat t) (lvL us).length t 0 = firN (us ++ [t]) := by unfold firN firT; rw [fiN_snoc, Nat.zero_add]
theorem lasN_step (us : List RT) (t : RT) : lasN us ++ lasT (flat t) (lvL us).length t 0 = lasN (us ++ [t]) := by unfold lasN lasT; rw [laN_snoc, Nat.zero_add]
theorem arcsN_step (SF : List Sym) (us : List RT) (t : RT) : arcsT SF (flat t) (lvL us).length (arcsN SF us) t 0 = arcsN SF (us ++ [t]) := by unfold arcsN arcsT; rw [prL_snoc, arcsJ_app, Nat.zero_add]
theorem arcsN_all (sy : Nd → Sym) (ts : List RT) : arcsN (syL sy ts) ts ++ arcsJ (syL sy ts) (joinP [0] (firN ts)) = arcsP sy ts := by
 unfold arcsN arcsP firN arcsJ joinP
 rw [List.map_append]
 simp
theorem lvL_pre {us vs : List RT} : (lvL us).length ≤ (lvL (us ++ vs)).length := by
 have : lvL (us ++ vs) = lvL us ++ lvL vs := by simp [lvL]
 rw [this, List.length_append]
 omega
theorem syL_pre (sy : Nd → Sym) (us vs : List RT) : syL sy us <+: syL sy (us ++ vs) := by
 unfold syL
 have : lvL (us ++ vs) = lvL us ++ lvL vs := by simp [lvL]
 rw [this, List.map_append]
 exact List.prefix_append _ _
theorem anyE_snoc2 (us : List RT) (t : RT) : (anyE us || empT t) = anyE (us ++ [t]) := (anyE_snoc us t).symm
def autoD (n : Int) (fs : List Int) (zs : List Arc) : DVal := .agg [.int .i64 n, dNums fs, dArcs zs]
def boxF (H L : List ByteArray) (ts : List RT) : DVal := autoD ((lvL ts).length + 1) (finsR ts) (compL (fun x y => arcC x y == 0) (sortC arcC (arcsP (symS H L) ts)))
end Go.Proofs.YtdgocjbakjamaaaGreat
end

section
set_option linter.unusedSectionVars false
/- boxes, program's side: box.Of -/



set_option linter.unusedSimpArgs false
set_option linter.unusedVariables false
namespace Go.Proofs.YtdgocjbakjamaaaGreat
open Go Go.Dm Go.Shelf
variable [DMode]
attribute [local irreducible] DW callP callS
set_option maxRecDepth 100000

abbrev autoZ : DVal := .agg [.int .i64 0, .nilsl, .nilsl]
abbrev dBodies (ls : List (List Nd)) : DVal := .sl 1 24 (ls.map rowB)
theorem compactA_sp (l : List Arc) : DSpec Tryz.prog (.func 76) [.osl 0 0] [⟨0, 0, .row 49 4 32 (l.map dArc)⟩] (dArcs (compL (fun x y => arcC x y == 0) l)) [] := compactA_spec l
theorem sortN_spec (l : List Nat) : DSpec Tryz.prog (.func 75) [.osl 0 0] [⟨0, 0, .row 3 1 8 (l.map natD)⟩] (.tup []) [⟨0, 0, .row 3 1 8 ((isort (l.map toI)).map dNum)⟩] := by
 have h := sortInts_spec (l.map toI)
 rw [List.map_map] at h
 exact h
structure BoxR (H L : List ByteArray) (ls : List (List Nd)) (R : DVal) : Prop where
 a : errF ls ≠ 0 → R = .tup [autoZ, .int .i64 (errF ls)]
 b : errF ls = 0 → ls.any (bad4 H L) = true → R = .tup [autoZ, .int .i64 4]
 c : errF ls = 0 → ls.any (bad4 H L) = false → 64 < occS ls → R = .tup [autoZ, .int .i64 183]
 d : errF ls = 0 → ∀ ts, ls = ts.map flat → (∀ t ∈ ts, okT t = true ∧ (flat t).length ≤ 2048) → ls.any (bad4 H L) = false → occS ls ≤ 64 → R = .tup [boxF H L ts, .int .i64 0]
def anBP115 : Ann := ⟨[77, 89, 94, 100, 105, 114, 126], [⟨16, [13], [], []⟩, ⟨17, [14], [], []⟩, ⟨30, [20], [], []⟩, ⟨38, [201, 77], [], []⟩, ⟨39, [], [], [0, 1, 2, 3, 4, 5, 6]⟩]⟩
set_option maxHeartbeats 8000000 in
theorem of15_pure (H L : List ByteArray) (ls : List (List Nd)) (R : DVal) (hH : H.length ≠ 0) (hR : BoxR H L ls R) (hm : mx R = 0) : DPure Tryz.prog 15 [dTab H L, dBodies ls] R := by
 refine DPure_introF [94, 4] (fn := Tryz.f15) Tryz.func15 rfl Tryz.call15 (by simp [Tryz.ntmps15]) (by simpa using hm) ?_
 intro hwf B hnt
 simp only [Tryz.ntmps15] at hnt
 have hA := an_is anBP115 Tryz.mixed (aj2 @anBP115.eq_1 Tryz.results15)
 have hwl : ls.length * 24 ≤ 150000000000000 := by
  have h1 := hwf.2.1
  simp only [wfD, List.length_map] at h1
  exact h1.1
 clear hwf
 simp only [argS]
 have e1 := names66_pure H L
 (refine go1 (aj1 e1) aj0 (aj1 hH) ?_; intros; refine mk_i ?_)
 clear hH
 refine DW_loop (X := {k : Nat // k ≤ ls.length ∧ errF ls = errF (ls.drop k)}) (fun k => ⟨[(1, dBodies ls), (2, .ref [dTab H L]), (4, .bx 4 1 0), (5, .int .i64 0), (32, dBodies ls), (33, .int .i64 ls.length), (34, .int .i64 k.1)], [⟨4, 1, .box [.int .i64 0, .nilsl, .nilsl]⟩]⟩) (fun k => ls.length - k.1) ⟨0, by simp⟩ (Sub.lit (by simp)) ?_
 rintro ⟨k, hk, hek⟩
 simp only
 by_cases hlt : k < ls.length
 ·obtain ⟨l, hl, hl', hlm⟩ := at_lt' hlt
  rw [List.drop_eq_getElem_cons hlt, hl', errF] at hek
  have e2 := bodyC_p l
  by_cases hc : bodyC l = 0
  ·rw [if_pos hc] at hek
   rw [hc] at e2
   (refine go1 (aj1 e2) aj0 (aj4 hlt hl hl' @rowB.eq_1) ?_; intros; refine mk_i ?_)
   exact Again.mk ⟨k + 1, by omega, hek⟩ (Sub.lit (by simp)) (by simp; omega)
   skip
  ·rw [if_neg hc] at hek
   have hRR := hR.a (by rw [hek]; exact hc)
   rw [hek] at hRR
   rw [hRR]
   have hcb : (bodyC l == 0) = false := by simpa using hc
   exact go0 (aj1 e2) aj0 (aj6 hlt hl hl' @rowB.eq_1 hc hcb)
 have hkk : k = ls.length := by omega
 subst hkk
 rw [List.drop_length] at hek
 have he0 : errF ls = 0 := hek
 obtain ⟨ts, hts, htp⟩ := errF_trees he0
 clear hek hk
 have htl : ls.length = ts.length := by rw [hts, List.length_map]
 have hocl := occS_le ts fun t ht => (htp t ht).2
 rw [← hts] at hocl
 (refine go1 aj0 aj0 aj0 ?_; intros; refine mk_i ?_)
 refine DW_loop (X := {k : Nat // k ≤ ls.length ∧ (ls.take k).any (bad4 H L) = false}) (fun k => ⟨[(1, dBodies ls), (2, .ref [dTab H L]), (4, .bx 4 1 0), (5, .int .i64 0), (9, .int .i64 (occS (ls.take k.1))), (45, dBodies ls), (46, .int .i64 ls.length), (47, .int .i64 k.1)], [⟨4, 1, .box [.int .i64 0, .nilsl, .nilsl]⟩]⟩) (fun k => ls.length - k.1) ⟨0, by simp⟩ (Sub.lit (by simp [occS_nil])) ?_
 rintro ⟨k, hk, hno⟩
 simp only
 by_cases hlt : k < ls.length
 ·obtain ⟨l, hl, hl', hlm⟩ := at_lt' hlt
  have hll : l.length ≤ 2048 := by
   rw [hts] at hlm
   obtain ⟨t, ht, rfl⟩ := List.mem_map.1 hlm
   exact (htp t ht).2
  have hos := occS_snoc (ls.take k) l
  rw [← take_snoc hl] at hos
  have hot := occS_take (ls := ls) (k := k + 1)
  obtain ⟨m, hm2⟩ : ∃ m, m = occS (ls.take k) := ⟨_, rfl⟩
  rw [← hm2] at hos ⊢
  have e5 := occ13_pure l
  have hw5 : IntKind.i64.wrap ((m : Int) + (occN l : Int)) = (occS (ls.take (k + 1)) : Int) := by rw [wrap64_in (by omega) (by omega), hos]; omega
  (refine go1 aj0 aj0 (aj4 hlt hl hl' @rowB.eq_1) ?_; intros; refine mk_i ?_)
  refine DW_loop (X := {j : Nat // j ≤ l.length ∧ bad4 H L (l.take j) = false}) (fun j => ⟨[(1, dBodies ls), (2, .ref [dTab H L]), (4, .bx 4 1 0), (5, .int .i64 0), (9, .int .i64 m), (11, dNds l), (45, dBodies ls), (46, .int .i64 ls.length), (47, .int .i64 k), (51, dNds l), (52, .int .i64 l.length), (53, .int .i64 j.1)], [⟨4, 1, .box [.int .i64 0, .nilsl, .nilsl]⟩]⟩) (fun j => l.length - j.1) ⟨0, by simp [bad4]⟩ (Sub.lit (by simp)) ?_
  rintro ⟨j, hj, hnj⟩
  simp only
  by_cases hlt2 : j < l.length
  ·obtain ⟨x, hx, hx', hxm⟩ := at_lt' hlt2
   have e3 := sym68_pure H L x
   have hbs : bad4 H L (l.take (j + 1)) = decide (symE H L x = 4) := by
    unfold bad4 at hnj ⊢
    rw [take_snoc hx, List.any_append, hnj]
    simp
   obtain ⟨E, hE⟩ : ∃ E, E = symE H L x := ⟨_, rfl⟩
   rw [← hE] at e3 hbs
   simp only [dNd, dSym] at e3
   by_cases h4 : E = 4
   ·have hany : ls.any (bad4 H L) = true := by
     rw [List.any_eq_true]
     refine ⟨l, hlm, ?_⟩
     unfold bad4
     rw [List.any_eq_true]
     exact ⟨x, hxm, by rw [← hE]; simp [h4]⟩
    rw [hR.b he0 hany]
    exact go0 (aj1 e3) aj0 (aj5 @dNd.eq_1 hlt2 hx hx' h4)
   ·have h4b : (E == 4) = false := by simpa using h4
    rw [decide_eq_false h4] at hbs
    (refine go1 (aj1 e3) aj0 (aj6 @dNd.eq_1 hlt2 hx hx' h4 h4b) ?_; intros; refine mk_i ?_)
    refine Again.mk ⟨j + 1, by omega, hbs⟩ (Sub.lit (by simp)) (by simp; omega)
    skip
  ·have hkk : j = l.length := by omega
   subst hkk
   rw [List.take_length] at hnj
   have hno2 : (ls.take (k + 1)).any (bad4 H L) = false := by rw [take_snoc hl, List.any_append, hno]; simp [hnj]
   (refine go1 (aj1 e5) aj0 (aj1 hw5) ?_; intros; refine mk_i ?_)
   refine Again.mk ⟨k + 1, by omega, hno2⟩ (Sub.lit (by simp)) (by simp; omega)
   skip
 have hkk : k = ls.length := by omega
 subst hkk
 rw [List.take_length] at hno
 clear hk hlt
 by_cases h64 : 64 < occS ls
 ·have hRc := hR.c he0 hno h64
  have d1 : (64 : Int) < (occS ls : Int) := by omega
  exact go0 aj0 aj0 (aj3 d1 h64 hRc)
 have hRd := hR.d he0 ts hts htp hno (by omega)
 have hoc := occS_trees ts
 rw [← hts] at hoc
 have d1 : ¬ (64 : Int) < (occS ls : Int) := by omega
 (refine go1 aj0 aj0 (aj2 d1 h64) ?_; intros; refine mk_i ?_)
 have hlv64 : (lvL ts).length ≤ 64 := by omega
 obtain ⟨SF, hSF⟩ : ∃ SF, SF = syL (symS H L) ts := ⟨_, rfl⟩
 have hpre : ∀ k, (lvL (ts.take k)).length ≤ 64 ∧ syL (symS H L) (ts.take k) <+: SF := fun k => by
  have h1 := lvL_pre (us := ts.take k) (vs := ts.drop k)
  have h2 := syL_pre (symS H L) (ts.take k) (ts.drop k)
  rw [List.take_append_drop] at h1 h2
  rw [hSF]
  exact ⟨by omega, h2⟩
 have hpl : ∀ k, (arcsN SF (ts.take k)).length ≤ 1073741824 := fun k => by
  have h1 := prL_few (ts.take k) 0 (fun t ht => (htp t (List.mem_of_mem_take ht)).2) (hpre k).1
  unfold arcsN
  rw [arcsJ_len]
  have := (hpre k).1
  omega
 have hfl : ∀ k, (firN (ts.take k)).length ≤ 64 ∧ (lasN (ts.take k)).length ≤ 64 := fun k => by
  have h1 := fiN_len (ts.take k) 0
  have h2 := laN_len (ts.take k) 0
  have := (hpre k).1
  exact ⟨by unfold firN; omega, by unfold lasN; omega⟩
 have z0 : arcsN SF [] = [] := rfl
 have z1 : syL (symS H L) [] = [] := rfl
 have z2 : firN [] = [] := rfl
 have z3 : lasN [] = [] := rfl
 have z4 : anyE [] = false := by rw [anyE]
 refine DW_adoptC 77 0 201 47 2 16 (by simp) (fun n1 => ?_)
 refine DW_adoptC 77 1 202 49 4 32 (by simp) (fun n2 => ?_)
 refine DW_adoptC 17 2 94 3 1 8 (by simp) (fun n3 => ?_)
 refine DW_nilC 17 1 1 8 rfl rfl ?_
 refine DW_loop (X := {k : Nat // k ≤ ts.length}) (fun k => ⟨[(2, .ref [dTab H L]), (4, .bx 4 1 0), (16, .bx 77 1 0), (17, .bx 17 1 0), (79, dBodies ls), (80, .int .i64 ls.length), (81, .int .i64 k.1)],
  [⟨4, 1, .box [.int .i64 0, .nilsl, .nilsl]⟩, ⟨77, 1, .box [.osl 201 1, .osl 202 1]⟩, ⟨201, 1, .row 47 2 16 ((syL (symS H L) (ts.take k.1)).map dSym)⟩, ⟨202, 1, .row 49 4 32 ((arcsN SF (ts.take k.1)).map dArc)⟩, ⟨17, 1, .box [.bool (anyE (ts.take k.1)), dNats (firN (ts.take k.1)), .osl 94 1]⟩, ⟨94, 1, .row 3 1 8 ((lasN (ts.take k.1)).map natD)⟩]⟩) (fun k => ts.length - k.1) ⟨0, by simp⟩ (Sub.lit (by simp [z0, z1, z2, z3, z4])) ?_
 rintro ⟨k, hk⟩
 simp only
 by_cases hlt : k < ts.length
 ·obtain ⟨t, ht, ht', htm⟩ := at_lt' hlt
  obtain ⟨hok, h2048⟩ := htp t htm
  have hlk : ls[k]? = some (flat t) := by rw [hts, List.getElem?_map, ht]; rfl
  have hltl : k < ls.length := by omega
  have hlk' : ls[k]'hltl = flat t := (List.getElem?_eq_some_iff.1 hlk).2
  have hp1 := hpre (k + 1)
  have y1 := syN_step H L (ts.take k) t
  have y2 := firN_step (ts.take k) t
  have y3 := lasN_step (ts.take k) t
  have y4 := arcsN_step SF (ts.take k) t
  have y5 := anyE_snoc2 (ts.take k) t
  have y6 := lvL_snoc (ts.take k) t
  rw [← take_snoc ht] at y1 y2 y3 y4 y5 y6
  have y7 := congrArg List.length y6
  rw [List.length_append] at y7
  have hA := hpl k
  have hF := hfl k
  have hF1 := hfl (k + 1)
  have e6 := tree69_all H L (flat t) (lvL (ts.take k)).length SF (by rw [← y7]; exact hp1.1) _ t (Nat.le_refl _) hok 0 [] (syL (symS H L) (ts.take k)) (arcsN SF (ts.take k)) (by simp) (by rw [syL_len, rkN_zero]; rfl) (by rw [y1]; exact hp1.2) (by omega)
  rw [y1, y4, List.append_nil] at e6
  have g1 := congrArg List.length y2
  have g2 := congrArg List.length y3
  rw [List.length_append] at g1 g2
  have e7 := alt71_spec (anyE (ts.take k)) (empT t) (firN (ts.take k)) (firT (flat t) (lvL (ts.take k)).length t 0) (lasN (ts.take k)) (lasT (flat t) (lvL (ts.take k)).length t 0) (by omega) (by omega)
  rw [y5, y2, y3] at e7
  refine DW_sub (Sub.freezeL [94] _) ?_
  simp
  (repeat (first | refine DW_seq fun K hK => ?_ | (refine DW_r anBP115 Tryz.mixed (by kernel_rfl) ?_; simp [anBP115, hnt, dBx, hltl, hlk, hlk', rowB]; try simp (disch := omega) only [wrap64_in]) | refine DW_block ?_ | (refine DW_if ?_ ?_ ?_; (· (simp [hnt, dBx, hltl, hlk, hlk', rowB]; done)); (try (rotate_left; (· (intro hc; (try simp [hnt, dBx, hltl, hlk, hlk', rowB] at hc); done))))) | (refine DW_ret ?_; simp [Tryz.results15, hnt, dBx, hltl, hlk, hlk', rowB]) | ((first | refine DW_exit ?_ | refine DW_skip ?_); simp [hnt, dBx, hltl, hlk, hlk', rowB]) | (intro hc; (try simp [hnt, dBx, hltl, hlk, hlk', rowB] at hc); (try (exfalso; omega))) | (refine callS_mk [(77,0),(201,1),(202,2)] [] (e6) ?_ ?_; (· (simp [hnt, dBx, hltl, hlk, hlk', rowB]; done)); (intro _; try simp [hnt, dBx, hltl, hlk, hlk', rowB])) | (refine callS_mk [] [(94,0)] (e7) ?_ ?_; (· (simp [hnt, dBx, hltl, hlk, hlk', rowB]; done)); (intro _; try simp [hnt, dBx, hltl, hlk, hlk', rowB])) | (refine ⟨?_, ?_⟩; · omega) | omega | apply_assumption -exfalso -symm | (exfalso; omega)))
  refine Again.mk ⟨k + 1, by omega⟩ (Sub.lit (by simp)) (by simp; omega)
  skip
 ·have hkk : k = ts.length := by omega
  subst hkk
  rw [List.take_length]
  have hA := hpl ts.length
  have hF := hfl ts.length
  have hP := hpre ts.length
  rw [List.take_length] at hA hF hP
  have e8 := join72_spec SF SF (arcsN SF ts) [0] (firN ts) (List.prefix_refl _) (fun q hq => by have := fiN_num ts 0 q hq; rw [hSF, syL_len]; omega) (by rw [hSF, syL_len]; omega) (by simp; omega)
  have y8 := arcsN_all (symS H L) ts
  rw [← hSF] at y8
  rw [y8] at e8
  have e9 := sortFA_spec (arcsP (symS H L) ts)
  have e11 := compactA_sp (sortC arcC (arcsP (symS H L) ts))
  rw [← hSF]
  have hnlt : ¬ (ts.length : Int) < (ls.length : Int) := by omega
  have hSl : SF.length = (lvL ts).length := by rw [hSF, syL_len]
  have hw1 : IntKind.i64.wrap ((SF.length : Int) + 1) = ((lvL ts).length : Int) + 1 := by rw [hSl]; exact wrap64_in (by omega) (by omega)
  have hfin := fins_law ts fun t ht => (htp t ht).1
  unfold boxF autoD at hRd
  obtain ⟨CZ, hCZ⟩ : ∃ CZ, CZ = compL (fun x y => arcC x y == 0) (sortC arcC (arcsP (symS H L) ts)) := ⟨_, rfl⟩
  rw [← hCZ] at hRd e11
  obtain ⟨FR, hFR⟩ : ∃ FR, FR = finsR ts := ⟨_, rfl⟩
  rw [← hFR] at hRd hfin
  cases hE : anyE ts
  ·have e10 := sortN_spec (lasN ts)
   have h12 : isort ((lasN ts).map toI) = FR := by
    rw [hE] at hfin
    simp only [Bool.false_eq_true, if_false, List.append_nil] at hfin
    exact hfin
   rw [h12] at e10
   (repeat (first | refine DW_seq fun K hK => ?_ | (refine DW_r anBP115 Tryz.mixed (by kernel_rfl) ?_; simp [anBP115, hnt, dBx, hnlt, natD, hw1, hRd]; try simp (disch := omega) only [wrap64_in]) | refine DW_block ?_ | (refine DW_if ?_ ?_ ?_; (· (simp [hnt, dBx, hnlt, natD, hw1, hRd]; done)); (try (rotate_left; (· (intro hc; (try simp [hnt, dBx, hnlt, natD, hw1, hRd] at hc); done))))) | (refine DW_ret ?_; simp [Tryz.results15, hnt, dBx, hnlt, natD, hw1, hRd]) | ((first | refine DW_exit ?_ | refine DW_skip ?_); simp [hnt, dBx, hnlt, natD, hw1, hRd]) | (intro hc; (try simp [hnt, dBx, hnlt, natD, hw1, hRd] at hc); (try (exfalso; omega))) | (refine callS_mk [(77,0),(201,1),(202,2)] [] (e8) ?_ ?_; (· (simp [hnt, dBx, hnlt, natD, hw1, hRd]; done)); (intro _; try simp [hnt, dBx, hnlt, natD, hw1, hRd])) | (refine callS_mk [(202,0)] [] (e9) ?_ ?_; (· (simp [hnt, dBx, hnlt, natD, hw1, hRd]; done)); (intro _; try simp [hnt, dBx, hnlt, natD, hw1, hRd])) | (refine callS_mk [(94,0)] [] (e10) ?_ ?_; (· (simp [hnt, dBx, hnlt, natD, hw1, hRd]; done)); (intro _; try simp [hnt, dBx, hnlt, natD, hw1, hRd])) | (refine callS_mk [(202,0)] [] (e11) ?_ ?_; (· (simp [hnt, dBx, hnlt, natD, hw1, hRd]; done)); (intro _; try simp [hnt, dBx, hnlt, natD, hw1, hRd])) | (refine ⟨?_, ?_⟩; · omega) | omega | apply_assumption -exfalso -symm | (exfalso; omega)))
  ·have e10 := sortN_spec (lasN ts ++ [0])
   have h12 : isort ((lasN ts ++ [0]).map toI) = FR := by
    rw [hE] at hfin
    simp only [if_true] at hfin
    rw [List.map_append]
    exact hfin
   rw [h12] at e10
   have hb : ((lasN ts).length + 1) * 8 ≤ 150000000000000 := by omega
   (repeat (first | refine DW_seq fun K hK => ?_ | (refine DW_r anBP115 Tryz.mixed (by kernel_rfl) ?_; simp [anBP115, hnt, dBx, hnlt, natD, hw1, hRd, hb]; try simp (disch := omega) only [wrap64_in]) | refine DW_block ?_ | (refine DW_if ?_ ?_ ?_; (· (simp [hnt, dBx, hnlt, natD, hw1, hRd, hb]; done)); (try (rotate_left; (· (intro hc; (try simp [hnt, dBx, hnlt, natD, hw1, hRd, hb] at hc); done))))) | (refine DW_ret ?_; simp [Tryz.results15, hnt, dBx, hnlt, natD, hw1, hRd, hb]) | ((first | refine DW_exit ?_ | refine DW_skip ?_); simp [hnt, dBx, hnlt, natD, hw1, hRd, hb]) | (intro hc; (try simp [hnt, dBx, hnlt, natD, hw1, hRd, hb] at hc); (try (exfalso; omega))) | (refine callS_mk [(77,0),(201,1),(202,2)] [] (e8) ?_ ?_; (· (simp [hnt, dBx, hnlt, natD, hw1, hRd, hb]; done)); (intro _; try simp [hnt, dBx, hnlt, natD, hw1, hRd, hb])) | (refine callS_mk [(202,0)] [] (e9) ?_ ?_; (· (simp [hnt, dBx, hnlt, natD, hw1, hRd, hb]; done)); (intro _; try simp [hnt, dBx, hnlt, natD, hw1, hRd, hb])) | (refine callS_mk [(94,0)] [] (e10) ?_ ?_; (· (simp [hnt, dBx, hnlt, natD, hw1, hRd, hb]; done)); (intro _; try simp [hnt, dBx, hnlt, natD, hw1, hRd, hb])) | (refine callS_mk [(202,0)] [] (e11) ?_ ?_; (· (simp [hnt, dBx, hnlt, natD, hw1, hRd, hb]; done)); (intro _; try simp [hnt, dBx, hnlt, natD, hw1, hRd, hb])) | (refine ⟨?_, ?_⟩; · omega) | omega | apply_assumption -exfalso -symm | (exfalso; omega)))
end Go.Proofs.YtdgocjbakjamaaaGreat
end

section
set_option linter.unusedSectionVars false
/- boxes by definition: what is wrong with bodies -/



set_option linter.unusedSimpArgs false
set_option linter.unusedVariables false
namespace Go.Proofs.YtdgocjbakjamaaaGreat
open Go Go.Dm
variable [DMode]
attribute [local irreducible] DW callP callS
set_option maxRecDepth 100000

noncomputable def wrongI (H L : List ByteArray) (ls : List (List Nd)) : Int := if errF ls = 0 then (if ls.any (bad4 H L) = true then 4 else if 64 < occS ls then 183 else 0) else errF ls
def anRB778 : Ann := ⟨[], [⟨15, [10], [], []⟩]⟩
set_option maxHeartbeats 8000000 in
theorem wrong78_pure (g : List Rul) (ls : List (List Nd)) (hn : ((namesK 3 g).length + 1) * 16 ≤ 150000000000000) : DPure Tryz.prog 78 [dRuls g, dBodies ls] (.int .i64 (wrongI (headsL g) (labelsL' g) ls)) := by
 refine DPure_introF [] (fn := Tryz.f78) Tryz.func78 rfl Tryz.call78 (by simp [Tryz.ntmps78]) (by simp [mx]) ?_
 intro hwf B hnt
 simp only [Tryz.ntmps78] at hnt
 have hA := an_is anRB778 Tryz.mixed (aj2 @anRB778.eq_1 Tryz.results78)
 have hwl : ls.length * 24 ≤ 150000000000000 := by
  have h1 := hwf.2.1
  simp only [wfD, List.length_map] at h1
  exact h1.1
 clear hwf
 simp only [argS]
 have eS := fun x => rsym147_pure g x hn
 obtain ⟨H, hH⟩ : ∃ H, H = headsL g := ⟨_, rfl⟩
 obtain ⟨L, hL⟩ : ∃ L, L = labelsL' g := ⟨_, rfl⟩
 simp only [← hH, ← hL] at eS ⊢
 clear hH hL
 obtain ⟨W, hW⟩ : ∃ W, W = wrongI H L ls := ⟨_, rfl⟩
 rw [← hW]
 unfold wrongI at hW
 (refine go1 aj0 aj0 aj0 ?_; intros; refine mk_i ?_)
 refine DW_loop (X := {k : Nat // k ≤ ls.length ∧ errF ls = errF (ls.drop k)}) (fun k => ⟨[(0, dRuls g), (1, dBodies ls), (5, .int .i64 k.1)], []⟩) (fun k => ls.length - k.1) ⟨0, by simp⟩ (Sub.lit (by simp)) ?_
 rintro ⟨k, hk, hek⟩
 simp only
 by_cases hlt : k < ls.length
 ·obtain ⟨l, hl, hl', hlm⟩ := at_lt' hlt
  rw [List.drop_eq_getElem_cons hlt, hl', errF] at hek
  have e2 := bodyC_r l
  have hwk : IntKind.i64.wrap ((k : Int) + 1) = (k : Int) + 1 := wrap64_in (by omega) (by omega)
  by_cases hc : bodyC l = 0
  ·rw [if_pos hc] at hek
   rw [hc] at e2
   (refine go1 (aj1 e2) aj0 (aj5 hlt hl hl' @rowB.eq_1 hwk) ?_; intros; refine mk_i ?_)
   exact Again.mk ⟨k + 1, by omega, hek⟩ (Sub.lit (by simp)) (by simp; omega)
   skip
  ·rw [if_neg hc] at hek
   rw [if_neg (by rw [hek]; exact hc), hek] at hW
   have hcb : (bodyC l == 0) = false := by simpa using hc
   exact go0 (aj1 e2) aj0 (aj7 hlt hl hl' @rowB.eq_1 hc hcb hW)
 have hkk : k = ls.length := by omega
 subst hkk
 rw [List.drop_length] at hek
 have he0 : errF ls = 0 := hek
 rw [if_pos he0] at hW
 obtain ⟨ts, hts, htp⟩ := errF_trees he0
 clear hek hk
 have htl : ls.length = ts.length := by rw [hts, List.length_map]
 have hocl := occS_le ts fun t ht => (htp t ht).2
 rw [← hts] at hocl
 (refine go1 aj0 aj0 aj0 ?_; intros; refine mk_i ?_)
 refine DW_loop (X := {k : Nat // k ≤ ls.length ∧ (ls.take k).any (bad4 H L) = false}) (fun k => ⟨[(0, dRuls g), (1, dBodies ls), (7, .int .i64 (occS (ls.take k.1))), (8, .int .i64 k.1)], []⟩) (fun k => ls.length - k.1) ⟨0, by simp⟩ (Sub.lit (by simp [occS_nil])) ?_
 rintro ⟨k, hk, hno⟩
 simp only
 by_cases hlt : k < ls.length
 ·obtain ⟨l, hl, hl', hlm⟩ := at_lt' hlt
  have hll : l.length ≤ 2048 := by
   rw [hts] at hlm
   obtain ⟨t, ht, rfl⟩ := List.mem_map.1 hlm
   exact (htp t ht).2
  have hos := occS_snoc (ls.take k) l
  rw [← take_snoc hl] at hos
  have hot := occS_take (ls := ls) (k := k + 1)
  obtain ⟨m, hm2⟩ : ∃ m, m = occS (ls.take k) := ⟨_, rfl⟩
  rw [← hm2] at hos ⊢
  have e5 := rocc146_pure l
  have hw5 : IntKind.i64.wrap ((m : Int) + (occN l : Int)) = (occS (ls.take (k + 1)) : Int) := by rw [wrap64_in (by omega) (by omega), hos]; omega
  have hwk : IntKind.i64.wrap ((k : Int) + 1) = (k : Int) + 1 := wrap64_in (by omega) (by omega)
  (refine go1 (aj1 e5) aj0 (aj5 hlt hl hl' @rowB.eq_1 hw5) ?_; intros; refine mk_i ?_)
  refine DW_loop (X := {j : Nat // j ≤ l.length ∧ bad4 H L (l.take j) = false}) (fun j => ⟨[(0, dRuls g), (1, dBodies ls), (7, .int .i64 (occS (ls.take (k + 1)))), (8, .int .i64 k), (9, .int .i64 j.1)], []⟩) (fun j => l.length - j.1) ⟨0, by simp [bad4]⟩ (Sub.lit (by simp)) ?_
  rintro ⟨j, hj, hnj⟩
  simp only
  by_cases hlt2 : j < l.length
  ·obtain ⟨x, hx, hx', hxm⟩ := at_lt' hlt2
   have e3 := eS x
   have hwj : IntKind.i64.wrap ((j : Int) + 1) = (j : Int) + 1 := wrap64_in (by omega) (by omega)
   have hbs : bad4 H L (l.take (j + 1)) = decide (symE H L x = 4) := by
    unfold bad4 at hnj ⊢
    rw [take_snoc hx, List.any_append, hnj]
    simp
   obtain ⟨E, hE⟩ : ∃ E, E = symE H L x := ⟨_, rfl⟩
   rw [← hE] at e3 hbs
   simp only [dNd, dSym] at e3
   by_cases h4 : E = 4
   ·have hany : ls.any (bad4 H L) = true := by
     rw [List.any_eq_true]
     refine ⟨l, hlm, ?_⟩
     unfold bad4
     rw [List.any_eq_true]
     exact ⟨x, hxm, by rw [← hE]; simp [h4]⟩
    rw [if_pos hany] at hW
    exact go0 (aj1 e3) aj0 (aj10 @dNd.eq_1 @rowB.eq_1 hlt hl hl' hlt2 hx hx' h4 hW)
   ·have h4b : (E == 4) = false := by simpa using h4
    rw [decide_eq_false h4] at hbs
    (refine go1 (aj1 e3) aj0 (aj11 @dNd.eq_1 @rowB.eq_1 hlt hl hl' hlt2 hx hx' h4 h4b hwj) ?_; intros; refine mk_i ?_)
    refine Again.mk ⟨j + 1, by omega, hbs⟩ (Sub.lit (by simp)) (by simp; omega)
    skip
  ·have hkk : j = l.length := by omega
   subst hkk
   rw [List.take_length] at hnj
   have hno2 : (ls.take (k + 1)).any (bad4 H L) = false := by rw [take_snoc hl, List.any_append, hno]; simp [hnj]
   (refine go1 aj0 aj0 (aj5 @rowB.eq_1 hlt hl hl' hwk) ?_; intros; refine mk_i ?_)
   refine Again.mk ⟨k + 1, by omega, hno2⟩ (Sub.lit (by simp)) (by simp; omega)
   skip
 have hkk : k = ls.length := by omega
 subst hkk
 rw [List.take_length] at hno
 clear hk hlt
 rw [if_neg (by rw [hno]; simp)] at hW
 by_cases h64 : 64 < occS ls
 ·rw [if_pos h64] at hW
  have d1 : (64 : Int) < (occS ls : Int) := by omega
  exact go0 aj0 aj0 (aj3 d1 h64 hW)
 ·rw [if_neg h64] at hW
  have d1 : ¬ (64 : Int) < (occS ls : Int) := by omega
  exact go0 aj0 aj0 (aj3 d1 h64 hW)
end Go.Proofs.YtdgocjbakjamaaaGreat
end

section
set_option linter.unusedSectionVars false
/- boxes by definition: Of -/



set_option linter.unusedSimpArgs false
set_option linter.unusedVariables false
namespace Go.Proofs.YtdgocjbakjamaaaGreat
open Go Go.Dm
variable [DMode]
attribute [local irreducible] DW callP callS
set_option maxRecDepth 100000

theorem pl_lvs (l : List Nd) : (plN l l.length).length = (lvs l).length := by rw [plN_len (Nat.le_refl _), rkN_all]
theorem arcsR_len (sy : Nd → Sym) : ∀ (ts : List RT) (ah : Nat), (lvL ts).length ≤ 64 → (arcsR sy ah ts).length ≤ 65 * (lvL ts).length
 | [], ah, _ => by simp [arcsR]
 | t :: ts, ah, h => by
  have h1 : lvL (t :: ts) = lvs (flat t) ++ lvL ts := by simp [lvL]
  rw [h1, List.length_append] at h ⊢
  have ih := arcsR_len sy ts (ah + (lvs (flat t)).length) (by omega)
  have h2 := pl_lvs (flat t)
  have h3 := bodyA_len sy ah t (by omega) (plN (flat t) (flat t).length)
  have h4 : arcsR sy ah (t :: ts) = bodyA sy ah t (plN (flat t) (flat t).length) ++ arcsR sy (ah + (lvs (flat t)).length) ts := rfl
  rw [h4, List.length_append]
  omega
def arcsI (sy : Nd → Sym) (us : List RT) : List Arc := insA [] (arcsR sy 0 us)
theorem arcsI_snoc (sy : Nd → Sym) (us : List RT) (t : RT) : insA (arcsI sy us) (bodyA sy (lvL us).length t (plN (flat t) (flat t).length)) = arcsI sy (us ++ [t]) := by
 unfold arcsI
 rw [arcsR_snoc, insA_app, Nat.zero_add]
 rfl
theorem arcsI_len (sy : Nd → Sym) (us : List RT) (h : (lvL us).length ≤ 64) : (arcsI sy us).length ≤ 4160 := by
 have h1 := insA_len [] (arcsR sy 0 us)
 have h2 := arcsR_len sy us 0 h
 unfold arcsI
 simp only [List.length_nil] at h1
 omega
def finI (us : List RT) : List Nat := finR 0 us
def finP (t : RT) (ah : Nat) (ps : List Nat) : List Nat := (ps.filter (enT t 0)).map (num (flat t) ah)
theorem finP_snoc (t : RT) (ah : Nat) (ps : List Nat) (p : Nat) : finP t ah (ps ++ [p]) = finP t ah ps ++ (if enT t 0 p = true then [num (flat t) ah p] else []) := by
 unfold finP
 rw [List.filter_append, List.map_append]
 cases h : enT t 0 p <;> simp [h]
theorem finP_nil (t : RT) (ah : Nat) : finP t ah [] = [] := rfl
theorem finP_len (t : RT) (ah : Nat) (ps : List Nat) : (finP t ah ps).length ≤ ps.length := by unfold finP; rw [List.length_map]; exact List.length_filter_le _ _
theorem finI_snoc (us : List RT) (t : RT) : finI us ++ finP t (lvL us).length (plN (flat t) (flat t).length) = finI (us ++ [t]) := by unfold finI finP; rw [finR_snoc, Nat.zero_add]
theorem finI_len : ∀ (ts : List RT) (ah : Nat), (finR ah ts).length ≤ (lvL ts).length
 | [], ah => by simp [finR]
 | t :: ts, ah => by
  have h1 : lvL (t :: ts) = lvs (flat t) ++ lvL ts := by simp [lvL]
  have ih := finI_len ts (ah + (lvs (flat t)).length)
  have h2 := pl_lvs (flat t)
  have h3 : ((plN (flat t) (flat t).length).filter (enT t 0)).length ≤ (plN (flat t) (flat t).length).length := List.length_filter_le _ _
  rw [finR, h1, List.length_append, List.length_append, List.length_map]
  omega
def refF (g : List Rul) (ts : List RT) : DVal := autoD ((lvL ts).length + 1) (finsR ts) (arcsI (syG g) ts)
theorem finsR_eq (ts : List RT) : dNums (finsR ts) = .sl 1 8 ((if anyE ts = true then [natD 0] else []) ++ (finI ts).map natD) := by
 unfold finsR finI
 rw [show dNums ((if anyE ts then [0] else []) ++ (finR 0 ts).map toI) = .sl 1 8 (((if anyE ts then [0] else []) ++ (finR 0 ts).map toI).map dNum) from rfl, List.map_append, List.map_map]
 cases anyE ts <;> rfl
def anRB819 : Ann := ⟨[63, 79, 84], []⟩
set_option maxHeartbeats 8000000 in
theorem rof19_pure (g : List Rul) (ls : List (List Nd)) (R : DVal) (hn : ((namesK 3 g).length + 1) * 16 ≤ 150000000000000) (hm : mx R = 0)
  (hRa : wrongI (headsL g) (labelsL' g) ls ≠ 0 → R = .tup [autoZ, .int .i64 (wrongI (headsL g) (labelsL' g) ls)])
  (hRd : ∀ ts, ls = ts.map flat → (∀ t ∈ ts, okT t = true ∧ (flat t).length ≤ 2048) → occS ls ≤ 64 → wrongI (headsL g) (labelsL' g) ls = 0 → R = .tup [refF g ts, .int .i64 0]) : DPure Tryz.prog 19 [dRuls g, dBodies ls] R := by
 refine DPure_introF [51, 4] (fn := Tryz.f19) Tryz.func19 rfl Tryz.call19 (by simp [Tryz.ntmps19]) (by simpa using hm) ?_
 intro hwf B hnt
 simp only [Tryz.ntmps19] at hnt
 have hA := an_is anRB819 Tryz.mixed (aj2 @anRB819.eq_1 Tryz.results19)
 have hwl : ls.length * 24 ≤ 150000000000000 := by
  have h1 := hwf.2.1
  simp only [wfD, List.length_map] at h1
  exact h1.1
 clear hwf
 simp only [argS]
 have e1 := wrong78_pure g ls hn
 obtain ⟨W, hW⟩ : ∃ W, W = wrongI (headsL g) (labelsL' g) ls := ⟨_, rfl⟩
 simp only [← hW] at e1 hRa hRd
 by_cases h0 : W = 0
 ·have hts : ∃ ts : List RT, ls = ts.map flat ∧ (∀ t ∈ ts, okT t = true ∧ (flat t).length ≤ 2048) ∧ occS ls ≤ 64 := by
   rw [h0] at hW
   unfold wrongI at hW
   split at hW
   ·rename_i he
    obtain ⟨ts, h1, h2⟩ := errF_trees he
    refine ⟨ts, h1, h2, ?_⟩
    split at hW
    ·omega
    ·split at hW
     ·omega
     ·omega
   ·rename_i he; exact absurd hW.symm he
  obtain ⟨ts, hts, htp, hoc⟩ := hts
  have hRR := hRd ts hts htp hoc h0
  have hoc2 := occS_trees ts
  rw [← hts] at hoc2
  have hlv : (lvL ts).length ≤ 64 := by omega
  have htl : ls.length = ts.length := by rw [hts, List.length_map]
  rw [h0] at e1
  clear hW hRa hRd
  (refine go1 (aj1 e1) aj0 aj0 ?_; intros; refine mk_i ?_)
  have hpre : ∀ k, (lvL (ts.take k)).length ≤ 64 := fun k => by
   have h1 := lvL_pre (us := ts.take k) (vs := ts.drop k)
   rw [List.take_append_drop] at h1
   omega
  have z1 : lvL [] = [] := rfl
  have z2 : arcsI (syG g) [] = [] := rfl
  have z3 : finI [] = [] := rfl
  have z4 : anyE [] = false := by rw [anyE]
  refine DW_adoptS 8 50 3 1 8 (by simp [hnt, Tryz.results19, anRB819]) (fun n1 => ?_)
  refine DW_nilC 7 2 4 32 rfl rfl ?_
  refine DW_loop (X := {k : Nat // k ≤ ts.length}) (fun k => ⟨[(0, dRuls g), (1, dBodies ls), (4, .bx 4 1 0), (7, .bx 7 1 0), (8, .osl 50 1), (9, .bool (anyE (ts.take k.1))), (10, .int .i64 k.1)],
   [⟨4, 1, .box [.int .i64 0, .nilsl, .nilsl]⟩, ⟨7, 1, .box [.int .i64 ((lvL (ts.take k.1)).length + 1), .nilsl, dArcs (arcsI (syG g) (ts.take k.1))]⟩, ⟨50, 1, .row 3 1 8 ((finI (ts.take k.1)).map natD)⟩]⟩) (fun k => ts.length - k.1) ⟨0, by simp⟩ (Sub.lit (by simp [z1, z2, z3, z4])) ?_
  rintro ⟨k, hk⟩
  simp only
  by_cases hlt : k < ts.length
  ·obtain ⟨t, ht, ht', htm⟩ := at_lt' hlt
   obtain ⟨hok, h2048⟩ := htp t htm
   have hlk : ls[k]? = some (flat t) := by rw [hts, List.getElem?_map, ht]; rfl
   have hltl : k < ls.length := by omega
   have hlk' : ls[k]'hltl = flat t := (List.getElem?_eq_some_iff.1 hlk).2
   have y1 := arcsI_snoc (syG g) (ts.take k) t
   have y2 := finI_snoc (ts.take k) t
   have y3 := anyE_snoc2 (ts.take k) t
   have y4 := congrArg List.length (lvL_snoc (ts.take k) t)
   rw [← take_snoc ht] at y1 y2 y3 y4
   rw [List.length_append] at y4
   have hp1 := hpre (k + 1)
   have hal := arcsI_len (syG g) (ts.take k) (hpre k)
   have hfl : (finI (ts.take k)).length ≤ 64 := by have := finI_len (ts.take k) 0; have := hpre k; unfold finI; omega
   obtain ⟨ah, hah⟩ : ∃ ah, ah = (lvL (ts.take k)).length := ⟨_, rfl⟩
   rw [← hah] at y1 y2 y4 ⊢
   have e2 := add79_pure g t ah (arcsI (syG g) (ts.take k)) hok h2048 (by omega) hn (by omega)
   rw [y1] at e2
   have e3 := places80_pure (flat t)
   have hpl := pl_lvs (flat t)
   have hprk : ∀ j p, (plN (flat t) (flat t).length)[j]? = some p → rkN (flat t) p = j := fun j p h => plN_rank (Nat.le_refl _) h
   have hat : At (flat t) 0 t := At.top hok
   have eE : ∀ q : Nat, DPure Tryz.prog 81 [dNds (flat t), .int .i64 0, .int .i64 q] (.bool (enT t 0 q)) := fun q => ends81_pure q _ t (flat t) 0 rfl hat (by omega)
   have eM : DPure Tryz.prog 82 [dNds (flat t), .int .i64 0] (.bool (empT t)) := empty39_pure _ t (flat t) 0 rfl hat (by omega)
   have hfs := finP_snoc t ah
   have hfpl := finP_len t ah
   obtain ⟨ps, hps⟩ : ∃ ps, ps = plN (flat t) (flat t).length := ⟨_, rfl⟩
   rw [← hps] at e3 hpl hprk y2
   clear hat hps
   obtain ⟨F0, hF0⟩ : ∃ F0, F0 = finI (ts.take k) := ⟨_, rfl⟩
   rw [← hF0] at y2 hfl ⊢
   have hw1 : IntKind.i64.wrap ((ah : Int) + 1 - 1) = (ah : Int) := by rw [wrap64_in (by omega) (by omega)]; omega
   have hwk : IntKind.i64.wrap ((k : Int) + 1) = (k : Int) + 1 := wrap64_in (by omega) (by omega)
   have hw2 : IntKind.i64.wrap ((ah : Int) + 1 + (ps.length : Int)) = ((lvL (ts.take (k + 1))).length : Int) + 1 := by rw [wrap64_in (by omega) (by omega)]; omega
   (refine go1 (aj2 e2 e3) aj0 (aj5 hltl hlk hlk' @rowB.eq_1 hw1) ?_; intros; refine mk_i ?_)
   refine DW_loop (X := {j : Nat // j ≤ ps.length}) (fun j => ⟨[(0, dRuls g), (1, dBodies ls), (4, .bx 4 1 0), (7, .bx 7 1 0), (8, .osl 50 1), (9, .bool (anyE (ts.take k))), (10, .int .i64 k), (11, dNds (flat t)), (12, .int .i64 ah), (13, dNats ps), (14, .int .i64 j.1)],
    [⟨4, 1, .box [.int .i64 0, .nilsl, .nilsl]⟩, ⟨7, 1, .box [.int .i64 ((ah : Int) + 1), .nilsl, dArcs (arcsI (syG g) (ts.take (k + 1)))]⟩, ⟨50, 1, .row 3 1 8 ((F0 ++ finP t ah (ps.take j.1)).map natD)⟩]⟩) (fun j => ps.length - j.1) ⟨0, by omega⟩ (Sub.lit (by simp [finP_nil])) ?_
   rintro ⟨j, hj⟩
   simp only
   by_cases hlt2 : j < ps.length
   ·obtain ⟨q, hq, hq', _⟩ := at_lt' hlt2
    have e4 := eE q
    have hrk := hprk j q hq
    have hf1 := hfs (ps.take j) q
    rw [← take_snoc hq] at hf1
    have hf2 := hfpl (ps.take j)
    rw [List.length_take] at hf2
    have hnum : num (flat t) ah q = ah + j + 1 := by unfold num; omega
    rw [hnum] at hf1
    obtain ⟨F1, hF1⟩ : ∃ F1, F1 = finP t ah (ps.take j) := ⟨_, rfl⟩
    rw [← hF1] at hf1 hf2 ⊢
    have hb : (F0.length + F1.length + 1) * 8 ≤ 150000000000000 := by omega
    have hwj : IntKind.i64.wrap ((ah : Int) + (j : Int)) = (ah : Int) + (j : Int) := wrap64_in (by omega) (by omega)
    have hwj2 : IntKind.i64.wrap ((ah : Int) + (j : Int) + 1) = (ah : Int) + (j : Int) + 1 := wrap64_in (by omega) (by omega)
    have hwj3 : IntKind.i64.wrap ((j : Int) + 1) = (j : Int) + 1 := wrap64_in (by omega) (by omega)
    cases hd : enT t 0 q
    ·rw [hd] at e4 hf1
     simp only [Bool.false_eq_true, if_false, List.append_nil] at hf1
     (refine go1 (aj1 e4) aj0 (aj5 hlt2 hq hq' @natD.eq_1 hwj3) ?_; intros; refine mk_i ?_)
     refine Again.mk ⟨j + 1, by omega⟩ (Sub.lit (by simp [hf1])) (by simp; omega)
     skip
    ·rw [hd] at e4 hf1
     simp only [if_true] at hf1
     (refine go1 (aj1 e4) aj0 (aj8 hlt2 hq hq' @natD.eq_1 hwj hwj2 hwj3 hb) ?_; intros; refine mk_i ?_)
     refine Again.mk ⟨j + 1, by omega⟩ (Sub.lit (by simp [hf1, natD])) (by simp; omega)
     skip
   ·have hkk : j = ps.length := by omega
    subst hkk
    rw [List.take_length, y2]
    cases hE : anyE (ts.take k)
    ·rw [hE, Bool.false_or] at y3
     rw [y3] at eM
     (refine go1 (aj1 eM) aj0 (aj2 hw2 hwk) ?_; intros; refine mk_i ?_)
     refine Again.mk ⟨k + 1, by omega⟩ (Sub.lit (by simp)) (by simp; omega)
     skip
    ·rw [hE, Bool.true_or] at y3
     (refine go1 (aj1 eM) aj0 (aj2 hw2 hwk) ?_; intros; refine mk_i ?_)
     refine Again.mk ⟨k + 1, by omega⟩ (Sub.lit (by simp [← y3])) (by simp; omega)
     skip
  ·have hkk : k = ts.length := by omega
   subst hkk
   rw [List.take_length]
   have hfl : (finI ts).length ≤ 64 := by have := finI_len ts 0; unfold finI; omega
   have hb1 : ((finI ts).length) * 8 ≤ 150000000000000 := by omega
   have hb2 : (1 + (finI ts).length) * 8 ≤ 150000000000000 := by omega
   have hnlt : ¬ ts.length < ls.length := by omega
   have hfe := finsR_eq ts
   unfold refF autoD at hRR
   rw [hfe] at hRR
   refine DW_sub (Sub.freezeL [50] _) ?_
   simp
   refine DW_adoptC 7 1 51 3 1 8 (by simp) (fun n2 => ?_)
   cases hE : anyE ts
   ·rw [hE] at hRR
    simp only [Bool.false_eq_true, if_false, List.nil_append] at hRR
    exact go0 aj0 aj0 (aj4 hnlt htl hRR hb1)
   ·rw [hE] at hRR
    simp only [if_true] at hRR
    exact go0 aj0 aj0 (aj5 hnlt htl hRR hb2 @natD.eq_1)
 ·have hRR := hRa h0
  have h0b : (W == 0) = false := by simpa using h0
  exact go0 (aj1 e1) aj0 (aj3 h0 h0b hRR)
end Go.Proofs.YtdgocjbakjamaaaGreat
end

section
set_option linter.unusedSectionVars false
/- steps of automata -/


set_option linter.unusedSimpArgs false
set_option linter.unusedVariables false
namespace Go.Proofs.YtdgocjbakjamaaaGreat
open Go Go.Dm
variable [DMode]
attribute [local irreducible] DW callP callS
set_option maxRecDepth 100000

@[simp] theorem bD_tail (l : List Bool) (v : Nat) (h : v < (bD l).length) : ((bD l)[v]'h).tail = [] := by simp [bD, dBl]
end Go.Proofs.YtdgocjbakjamaaaGreat
end

section
set_option linter.unusedSectionVars false
/- steps of automata: the document's, sets and their numbers -/


set_option linter.unusedSimpArgs false
set_option linter.unusedVariables false
namespace Go.Proofs.YtdgocjbakjamaaaGreat
open Go Go.Dm
variable [DMode]
attribute [local irreducible] DW callP callS
set_option maxRecDepth 100000

def numD (l : List Int) : List (List DVal) := l.map dNum
@[simp] theorem mx_numD (l : List Int) : mxR (numD l) = 0 := mx_dNums l
def anBX642 : Ann := ⟨[], []⟩
theorem sameInts_refl (l : List Int) : DPure Tryz.prog 42 [dNums l, dNums l] (.bool true) := by
 refine DPure_introF [] (fn := Tryz.f42) Tryz.func42 rfl Tryz.call42 (by simp [Tryz.ntmps42]) (by simp [mx]) ?_
 intro hwf B hnt
 simp only [Tryz.ntmps42] at hnt
 have hA := an_is anBX642 Tryz.mixed (aj2 @anBX642.eq_1 Tryz.results42)
 have hl := len_nums hwf.1
 clear hwf
 simp only [argS]
 (refine go1 aj0 aj0 aj0 ?_; intros; refine mk_i ?_)
 refine DW_loop (X := {k : Nat // k ≤ l.length}) (fun k => ⟨[(0, dNums l), (1, dNums l), (5, .int .i64 k.1)], []⟩) (fun k => l.length - k.1) ⟨0, by simp⟩ (Sub.lit (by simp)) ?_
 rintro ⟨k, hk⟩
 simp only
 by_cases hlt : k < l.length
 ·obtain ⟨q, hq, hq', _⟩ := at_lt' hlt
  (refine go1 aj0 aj0 (aj4 @dNum.eq_1 hlt hq hq') ?_; intros; refine mk_i ?_)
  refine Again.mk ⟨k + 1, by omega⟩ (Sub.lit (by simp)) (by simp; omega)
  skip
 ·have hkk : k = l.length := by omega
  subst hkk
  exact go0 aj0 aj0 aj0
end Go.Proofs.YtdgocjbakjamaaaGreat
end

section
set_option linter.unusedSectionVars false
/- boxes by definition: copies, sameness -/



set_option linter.unusedSimpArgs false
set_option linter.unusedVariables false
namespace Go.Proofs.YtdgocjbakjamaaaGreat
open Go Go.Dm
variable [DMode]
attribute [local irreducible] DW callP callS
set_option maxRecDepth 100000

def anRB977 : Ann := ⟨[], []⟩
theorem rcopy77_pure (l : List Nd) (hs : l.length ≤ 1310720) : DPure Tryz.prog 77 [dNds l] (dNds l) := by
 refine DPure_introF [50] (fn := Tryz.f77) Tryz.func77 rfl Tryz.call77 (by simp [Tryz.ntmps77]) (by simp [mx]) ?_
 intro hwf B hnt
 simp only [Tryz.ntmps77] at hnt
 have hA := an_is anRB977 Tryz.mixed (aj2 @anRB977.eq_1 Tryz.results77)
 clear hwf
 simp only [argS]
 have hb : l.length * 32 ≤ 150000000000000 := by omega
 iterate 6 ((first | refine DW_seq fun K hK => ?_ | (refine DW_r anRB977 Tryz.mixed (by kernel_rfl) ?_; simp [anRB977, hnt]; try simp (disch := omega) only [wrap64_in]) | refine DW_block ?_ | (refine DW_if ?_ ?_ ?_; (· (simp [hnt]; done)); (try (rotate_left; (· (intro hc; (try simp [hnt] at hc); done))))) | (refine DW_ret ?_; simp [Tryz.results77, hnt]) | ((first | refine DW_exit ?_ | refine DW_skip ?_); simp [hnt]) | (intro hc; (try simp [hnt] at hc); (try (exfalso; omega))) | (refine ⟨?_, ?_⟩; · omega) | omega | apply_assumption -exfalso -symm | (exfalso; omega)))
 refine DW_adoptS 3 50 91 3 32 (by simp [hnt, Tryz.results77, anRB977]) (fun n => ?_)
 exact go0 aj0 aj0 (aj1 hb)
def anRB920 : Ann := ⟨[], []⟩
set_option maxHeartbeats 1000000 in
theorem sameAuto20_refl (a : Auto) : DPure Tryz.prog 20 [.agg (dAuto a), .agg (dAuto a)] (.bool true) := by
 refine DPure_introF [] (fn := Tryz.f20) Tryz.func20 rfl Tryz.call20 (by simp [Tryz.ntmps20]) (by simp [mx]) ?_
 intro hwf B hnt
 simp only [Tryz.ntmps20] at hnt
 have hA := an_is anRB920 Tryz.mixed (aj2 @anRB920.eq_1 Tryz.results20)
 obtain ⟨n, f, z⟩ := a
 have hz : z.length ≤ 9223372036854775807 := by
  simp only [wfL, wfD, dAuto, List.length_map, maxLen] at hwf
  omega
 clear hwf
 simp only [argS]
 have e1 := sameInts_refl f
 (refine go1 (aj1 e1) aj0 (aj1 @dAuto.eq_1) ?_; intros; refine mk_i ?_)
 refine DW_loop (X := {i : Nat // i ≤ z.length}) (fun i => ⟨[(2, .ref [.int .i64 n, dNums f, dArcs z]), (3, .ref [.int .i64 n, dNums f, dArcs z]), (5, .int .i64 i.1)], []⟩) (fun i => z.length - i.1) ⟨0, by omega⟩ (Sub.lit (by simp)) ?_
 rintro ⟨i, hi⟩
 simp only
 by_cases hlt : i < z.length
 ·obtain ⟨x, hx, hx', _⟩ := at_lt' hlt
  have hw : IntKind.i64.wrap ((i : Int) + 1) = (i : Int) + 1 := wrap64_in (by omega) (by omega)
  (refine go1 aj0 aj0 (aj5 @dArc.eq_1 hlt hx hx' hw) ?_; intros; refine mk_i ?_)
  refine Again.mk ⟨i + 1, by omega⟩ (Sub.lit (by simp)) (by simp; omega)
  skip
 ·have hkk : i = z.length := by omega
  subst hkk
  exact go0 aj0 aj0 aj0
def anRB916 : Ann := ⟨[17], []⟩
set_option maxHeartbeats 1000000 in
theorem copies16_pure (ls : List (List Nd)) (hs : ∀ l ∈ ls, l.length ≤ 1310720) (hl : ls.length * 24 ≤ 140737488355328) : DPure Tryz.prog 16 [dBodies ls] (dBodies ls) := by
 refine DPure_introF [50] (fn := Tryz.f16) Tryz.func16 rfl Tryz.call16 (by simp [Tryz.ntmps16]) (by simp [mx]) ?_
 intro hwf B hnt
 simp only [Tryz.ntmps16] at hnt
 have hA := an_is anRB916 Tryz.mixed (aj2 @anRB916.eq_1 Tryz.results16)
 clear hwf
 simp only [argS]
 (refine go1 aj0 aj0 aj0 ?_; intros; refine mk_i ?_)
 refine DW_adoptS 3 50 42 1 24 (by simp [hnt, Tryz.results16, anRB916]) (fun n => ?_)
 refine DW_loop (X := {k : Nat // k ≤ ls.length}) (fun k => ⟨[(0, dBodies ls), (3, .osl 50 1), (4, .int .i64 k.1)], [⟨50, 1, .row 42 1 24 ((ls.take k.1).map rowB)⟩]⟩) (fun k => ls.length - k.1) ⟨0, by omega⟩ (Sub.lit (by simp)) ?_
 rintro ⟨k, hk⟩
 simp only
 by_cases hlt : k < ls.length
 ·obtain ⟨l, hx, hx', hm⟩ := at_lt' hlt
  have e1 := rcopy77_pure l (hs l hm)
  have hts : (ls.take (k + 1)).map rowB = (ls.take k).map rowB ++ [[dNds l]] := by rw [take_snoc hx, List.map_append]; rfl
  have hts2 : List.take (k + 1) (List.map rowB ls) = (ls.take k).map rowB ++ [[dNds l]] := by rw [← List.map_take]; exact hts
  have htl : (ls.take k).length ≤ k := by rw [List.length_take]; omega
  obtain ⟨T, hT⟩ : ∃ T, T = ls.take k := ⟨_, rfl⟩
  rw [← hT] at hts2 htl ⊢
  have hb : (T.length + 1) * 24 ≤ 150000000000000 := by omega
  have hwk : IntKind.i64.wrap ((k : Int) + 1) = (k : Int) + 1 := wrap64_in (by omega) (by omega)
  (refine go1 (aj1 e1) aj0 (aj6 @rowB.eq_1 hlt hx hx' hb hwk) ?_; intros; refine mk_i ?_)
  refine Again.mk ⟨k + 1, by omega⟩ (Sub.lit (by simp [hts2])) (by simp; omega)
  skip
 ·have hkk : k = ls.length := by omega
  subst hkk
  rw [List.take_length]
  exact go0 aj0 aj0 aj0
def anRB918 : Ann := ⟨[], []⟩
theorem may18_pure (g : List Rul) (c : Int) (h : DPure Tryz.prog 48 [dRuls g] (.int .i64 c)) : DPure Tryz.prog 18 [dRuls g] (.bool (decide (c = 0))) := by
 refine DPure_introF [] (fn := Tryz.f18) Tryz.func18 rfl Tryz.call18 (by simp [Tryz.ntmps18]) (by simp [mx]) ?_
 intro hwf B hnt
 simp only [Tryz.ntmps18] at hnt
 have hA := an_is anRB918 Tryz.mixed (aj2 @anRB918.eq_1 Tryz.results18)
 clear hwf
 simp only [argS]
 exact go0 (aj1 h) aj0 aj0
end Go.Proofs.YtdgocjbakjamaaaGreat
end

section
set_option linter.unusedSectionVars false
/- may an automaton be? the program's answer -/


set_option linter.unusedSimpArgs false
set_option linter.unusedVariables false
namespace Go.Proofs.YtdgocjbakjamaaaGreat
open Go Go.Dm
variable [DMode]
attribute [local irreducible] DW callP callS
set_option maxRecDepth 100000

def anBX223 : Ann := ⟨[], [⟨10, [8], [], []⟩]⟩
set_option maxHeartbeats 4000000 in
theorem check7_pure (a : Auto) : DPure Tryz.prog 23 [.agg (dAuto a)] (.int .i64 (if autoOK a then 0 else 200)) := by
 refine DPure_introF [] (fn := Tryz.f23) Tryz.func23 rfl Tryz.call23 (by simp [Tryz.ntmps23]) (by simp [mx]) ?_
 intro hwf B hnt
 simp only [Tryz.ntmps23] at hnt
 have hA := an_is anBX223 Tryz.mixed (aj2 @anBX223.eq_1 Tryz.results23)
 obtain ⟨_, hw2, hw3⟩ := w_auto (a := a) (by simpa only [wfL, wfD, and_true] using hwf)
 clear hwf
 have hn1 : (-1 : Int).toNat = 0 := rfl
 have hn2 : IntKind.i64.wrap (-1) = -1 := wrap64_in (by omega) (by omega)
 simp only [argS]
 obtain ⟨b0, hb0⟩ : ∃ b0 : Bool, b0 = (decide (1 ≤ a.st) && decide (a.st ≤ 65)) := ⟨_, rfl⟩
 have hfin : autoOK a = (b0 && ((List.range a.fin.length).all (okF a.st a.fin) && (List.range a.arcs.length).all (okA a.st a.arcs))) := by rw [hb0]; rfl
 (refine go1 aj0 aj0 (aj1 @dAuto.eq_1) ?_; intros; refine mk_i ?_)
 refine DW_loop (X := {k : Nat // k ≤ a.fin.length}) (fun k => ⟨[(1, .ref [.int .i64 a.st, dNums a.fin, dArcs a.arcs]), (3, .fn (.func 86) [] [.ref [.int .i64 a.st, dNums a.fin, dArcs a.arcs]]), (4, .bool (b0 && (List.range k.1).all (okF a.st a.fin))), (19, dNums a.fin), (20, .int .i64 a.fin.length), (21, .int .i64 k.1)], []⟩) (fun k => a.fin.length - k.1) ⟨0, by simp⟩ (Sub.lit (by simp [hb0])) ?_
 rintro ⟨k, hk⟩
 simp only
 by_cases hlt : k < a.fin.length
 ·obtain ⟨q, hq, hq', hqm⟩ := at_lt' hlt
  have hst := range_all_succ (n := k) (okF a.st a.fin)
  obtain ⟨b, hb⟩ : ∃ b : Bool, b = (b0 && (List.range k).all (okF a.st a.fin)) := ⟨_, rfl⟩
  have hb1 : (b0 && (List.range (k + 1)).all (okF a.st a.fin)) = (b && okF a.st a.fin k) := by rw [hst, hb, Bool.and_assoc]
  have e1 := state15_pure a q
  simp only [dAuto] at e1
  simp only [← hb]
  cases k with
  | zero =>
   have ho := okF_zero (s := a.st) hq
   rw [ho] at hb1
   cases b <;> (refine go1 (aj1 e1) aj0 (aj6 @dNum.eq_1 hlt hq' hn1 hn2 hq) ?_; intros; refine mk_i ?_)
   all_goals
    refine Again.mk ⟨0 + 1, by omega⟩ (Sub.lit (by simp only [hb1]; simp)) (by simp; omega)
   skip
  | succ m =>
   obtain ⟨p, hp, hp', _⟩ := at_lt' (l := a.fin) (k := m) (by omega)
   have ho := okF_pos (s := a.st) (k := m + 1) (by omega) hq hp
   rw [ho] at hb1
   have hm1 : ¬ (m : Int) + 1 = 0 := by omega
   have hm2 : m < a.fin.length := by omega
   have hm5 : (m : Int) + 1 < (a.fin.length : Int) := by omega
   have hm3 : (((m : Int) + 1) == 0) = false := by simpa using hm1
   have hm4 : IntKind.i64.wrap (m : Int) = m := wrap64_in (by omega) (by omega)
   cases b <;> (refine go1 (aj1 e1) aj0 (aj10 @dNum.eq_1 hlt hq' hm1 hm2 hm3 hm4 hm5 hp' hp) ?_; intros; refine mk_i ?_)
   all_goals
    refine Again.mk ⟨m + 1 + 1, by omega⟩ (Sub.lit (by simp only [hb1]; simp)) (by simp; omega)
   skip
 ·have hkk : k = a.fin.length := by omega
  subst hkk
  obtain ⟨b1, hb1⟩ : ∃ b : Bool, b = (b0 && (List.range a.fin.length).all (okF a.st a.fin)) := ⟨_, rfl⟩
  rw [← Bool.and_assoc, ← hb1] at hfin
  rw [← hb1]
  (refine go1 aj0 aj0 aj0 ?_; intros; refine mk_i ?_)
  refine DW_loop (X := {k : Nat // k ≤ a.arcs.length}) (fun k => ⟨[(1, .ref [.int .i64 a.st, dNums a.fin, dArcs a.arcs]), (3, .fn (.func 86) [] [.ref [.int .i64 a.st, dNums a.fin, dArcs a.arcs]]), (4, .bool (b1 && (List.range k.1).all (okA a.st a.arcs))), (48, dArcs a.arcs), (49, .int .i64 a.arcs.length), (50, .int .i64 k.1)], []⟩) (fun k => a.arcs.length - k.1) ⟨0, by simp⟩ (Sub.lit (by simp)) ?_
  rintro ⟨k, hk⟩
  simp only
  by_cases hlt : k < a.arcs.length
  ·obtain ⟨x, hq, hq', hqm⟩ := at_lt' hlt
   have hst := range_all_succ (n := k) (okA a.st a.arcs)
   obtain ⟨b, hb⟩ : ∃ b : Bool, b = (b1 && (List.range k).all (okA a.st a.arcs)) := ⟨_, rfl⟩
   have hb2 : (b1 && (List.range (k + 1)).all (okA a.st a.arcs)) = (b && okA a.st a.arcs k) := by rw [hst, hb, Bool.and_assoc]
   have e1 := state15_pure a x.fr
   have e2 := state15_pure a x.to
   simp only [dAuto] at e1 e2
   simp only [← hb]
   cases k with
   | zero =>
    have ho := okA_zero (s := a.st) hq
    rw [ho] at hb2
    unfold arcOK at hb2
    cases b
    ·(refine go1 (aj2 e1 e2) aj0 (aj6 @dArc.eq_1 hlt hq' hn1 hn2 hq) ?_; intros; refine mk_i ?_)
     refine Again.mk ⟨0 + 1, by omega⟩ (Sub.lit (by simp only [hb2]; simp)) (by simp; omega)
     skip
    cases hS : stB a.st x.fr <;> rw [hS] at hb2 <;> (refine go1 (aj2 e1 e2) aj0 (aj7 @dArc.eq_1 hlt hq' hS hn1 hn2 hq) ?_; intros; refine mk_i ?_)
    all_goals
     refine Again.mk ⟨0 + 1, by omega⟩ (Sub.lit (by simp only [hb2]; simp)) (by simp; omega)
     skip
   | succ m =>
    obtain ⟨p, hp, hp', _⟩ := at_lt' (l := a.arcs) (k := m) (by omega)
    have ho := okA_pos (s := a.st) (k := m + 1) (by omega) hq hp
    rw [ho, arcLess_eq] at hb2
    unfold arcOK at hb2
    have hm1 : ¬ (m : Int) + 1 = 0 := by omega
    have hm2 : m < a.arcs.length := by omega
    have hm5 : (m : Int) + 1 < (a.arcs.length : Int) := by omega
    have hm3 : (((m : Int) + 1) == 0) = false := by simpa using hm1
    have hm4 : IntKind.i64.wrap (m : Int) = m := wrap64_in (by omega) (by omega)
    have e3 := order16_pure p x
    simp only [dArc] at e3
    cases b
    ·(refine go1 (aj3 e1 e2 e3) aj0 (aj10 @dArc.eq_1 hlt hq' hm1 hm2 hm3 hm4 hm5 hp' hp) ?_; intros; refine mk_i ?_)
     refine Again.mk ⟨m + 1 + 1, by omega⟩ (Sub.lit (by simp only [hb2]; simp)) (by simp; omega)
     skip
    cases hS : stB a.st x.fr <;> rw [hS] at hb2
    ·(refine go1 (aj3 e1 e2 e3) aj0 (aj11 @dArc.eq_1 hlt hq' hS hm1 hm2 hm3 hm4 hm5 hp' hp) ?_; intros; refine mk_i ?_)
     refine Again.mk ⟨m + 1 + 1, by omega⟩ (Sub.lit (by simp only [hb2]; simp)) (by simp; omega)
     skip
    cases hT : stB a.st x.to <;> rw [hT] at hb2
    ·(refine go1 (aj3 e1 e2 e3) aj0 (aj12 @dArc.eq_1 hlt hq' hS hT hm1 hm2 hm3 hm4 hm5 hp' hp) ?_; intros; refine mk_i ?_)
     refine Again.mk ⟨m + 1 + 1, by omega⟩ (Sub.lit (by simp only [hb2]; simp)) (by simp; omega)
     skip
    by_cases hN : 0 ≤ x.sy.n <;> simp only [hN, decide_true, decide_false] at hb2 <;> (refine go1 (aj3 e1 e2 e3) aj0 (aj13 @dArc.eq_1 hlt hq' hS hT hN hm1 hm2 hm3 hm4 hm5 hp' hp) ?_; intros; refine mk_i ?_)
    all_goals
     refine Again.mk ⟨m + 1 + 1, by omega⟩ (Sub.lit (by simp only [hb2]; simp)) (by simp; omega)
     skip
  ·have hkk : k = a.arcs.length := by omega
   subst hkk
   rw [← hfin]
   cases hA : autoOK a <;> (repeat (first | refine DW_seq fun K hK => ?_ | (refine DW_r anBX223 Tryz.mixed (by kernel_rfl) ?_; simp [anBX223, hnt, hA]; try simp (disch := omega) only [wrap64_in]) | refine DW_block ?_ | (refine DW_if ?_ ?_ ?_; (· (simp [hnt, hA]; done)); (try (rotate_left; (· (intro hc; (try simp [hnt, hA] at hc); done))))) | (refine DW_ret ?_; simp [Tryz.results23, hnt, hA]) | ((first | refine DW_exit ?_ | refine DW_skip ?_); simp [hnt, hA]) | (intro hc; (try simp [hnt, hA] at hc); (try (exfalso; omega))) | (refine ⟨?_, ?_⟩; · omega) | omega | apply_assumption -exfalso -symm | (exfalso; omega)))
end Go.Proofs.YtdgocjbakjamaaaGreat
end

