/- Parts of a proof, laid together: EnK, EnL, EnM. -/
import Derived.Test.YtedjakmhhlilaaaGreatqGx12
set_option linter.unusedSimpArgs false
set_option linter.unusedVariables false
set_option linter.unusedSectionVars false
section
namespace Go.Dm
variable [DMode]
def ExtE (a b : List Ent) : Prop := ∀ id e, findE a id = some e → findE b id = some e
section
variable {P : Program} {a b : List Ent} {e : Operand → DVal}
theorem isCur_ext (h : ExtE a b) {id r : Nat} (hc : isCur a id r = true) : isCur b id r = true := by
 unfold isCur at hc ⊢
 split at hc
 ·rename_i x hx; rw [h _ _ hx]; exact hc
 ·simp at hc
theorem cellsAt_ext (h : ExtE a b) {p : DVal} {cs : List DVal} (hc : cellsAt a p = some cs) : cellsAt b p = some cs := by
 cases p <;> simp only [cellsAt] at hc ⊢ <;> try exact hc
 ·split at hc
  ·rename_i x hx; rw [h _ _ hx]; exact hc
  ·simp at hc
 ·split at hc
  ·rename_i x hx; rw [h _ _ hx]; exact hc
  ·simp at hc
theorem rowsOf_ext (h : ExtE a b) {p : DVal} {x : Nat × Nat × List (List DVal)} (hc : rowsOf a p = some x) : rowsOf b p = some x := by
 cases p <;> simp only [rowsOf] at hc ⊢ <;> try exact hc
 ·split at hc
  ·rename_i y hy; rw [h _ _ hy]; exact hc
  ·simp at hc
 ·split at hc
  ·rename_i y hy; rw [h _ _ hy]; exact hc
  ·simp at hc
theorem oneO_ext (h : ExtE a b) {d : DVal} (hc : oneO a d = true) : oneO b d = true := by
 cases d <;> simp only [oneO] at hc ⊢ <;> try exact hc
 ·exact isCur_ext h hc
 ·exact isCur_ext h hc
 ·obtain ⟨x, hx⟩ := Option.isSome_iff_exists.1 hc
  rw [rowsOf_ext h hx]; rfl
 ·exact isCur_ext h hc
 ·exact isCur_ext h hc
 ·split at hc
  ·rename_i e he; rw [h _ e he]; exact hc
  ·simp at hc
theorem plainD_ext (h : ExtE a b) {d : DVal} (hc : plainD a d = true) : plainD b d = true := by
 unfold plainD at hc ⊢
 exact List.all_eq_true.2 fun x hx => oneO_ext h (List.all_eq_true.1 hc x hx)
theorem mapOf_ext (h : ExtE a b) {p : DVal} {x : List DVal × List DVal} (hc : mapOf a p = some x) : mapOf b p = some x := by
 unfold mapOf at hc ⊢
 split at hc
 ·exact hc
 ·exact hc
 ·rename_i id r
  cases hf : findE a id with
  | none => rw [hf] at hc; simp at hc
  | some e => rw [hf] at hc; simp only [h id e hf]; exact hc
 ·simp at hc
theorem bVal_ext (h : ExtE a b) {bi : Builtin} {ds : List DVal} {ts : List TypeId} (hp : bPre P a bi ds ts) : bPre P b bi ds ts ∧ bVal b bi ds = bVal a bi ds := by
 unfold bPre at hp
 split at hp
 ·rename_i d t
  cases d <;> simp only [bPre, bVal] at hp ⊢ <;> first
   | exact ⟨hp, trivial⟩
   |(obtain ⟨h1, h2⟩ := hp
     obtain ⟨x, hx⟩ := Option.isSome_iff_exists.1 h1
     rw [hx, rowsOf_ext h hx]
     exact ⟨⟨rfl, h2⟩, rfl⟩)
   |(obtain ⟨h1, h2⟩ := hp
     split at h2
     ·rename_i hx; rw [mapOf_ext h hx]; exact ⟨⟨h1, h2⟩, rfl⟩
     ·exact h2.elim)
 ·simp only [bPre, bVal]; exact ⟨hp, trivial⟩
 ·simp only [bPre, bVal]; exact ⟨hp, trivial⟩
 ·simp only [bPre, bVal]; exact ⟨hp, trivial⟩
 ·exact hp.elim
theorem n_ext (h : ExtE a b) (op : Op) (hp : nPre P a e op) : nPre P b e op ∧ nVal P b e op = nVal P a e op := by
 cases op <;> simp only [nPre, nVal] at hp ⊢ <;> first
  | exact ⟨hp, trivial⟩
  | exact hp.elim
  | trivial
  | skip
 case fieldAddr t x f =>
  refine ⟨?_, trivial⟩
  split at hp
  ·exact hp
  ·exact ⟨hp.1, isCur_ext h hp.2⟩
  ·exact ⟨hp.1, isCur_ext h hp.2⟩
  ·exact hp.elim
 case nilCheck x =>
  refine ⟨?_, trivial⟩
  split at hp
  ·trivial
  ·exact isCur_ext h hp
  ·exact isCur_ext h hp
  ·trivial
  ·exact hp.elim
 case load t x =>
  split at hp
  ·rename_i h1 h2 h3; rw [h1, h2, cellsAt_ext h h3]; exact ⟨hp, rfl⟩
  ·rename_i h1 h3; rw [h1, cellsAt_ext h h3]; exact ⟨hp, rfl⟩
  ·exact hp.elim
 case indexAddr t x i =>
  split at hp
  ·rename_i ik n k bs k' bs' es h1 h2 h3
   rw [h1, h2, rowsOf_ext h h3]
   refine ⟨hp, ?_⟩
   simp only
   cases hx : e x <;> rw [hx] at h3 <;> simp only [idxVal]
   rw [h3, rowsOf_ext h h3]
  ·rename_i ik n h1 h2
   rw [h1, h2]
   simp only
   split at hp
   ·rename_i len k h3
    obtain ⟨p1, p2, p3⟩ := hp
    refine ⟨⟨p1, p2, ?_⟩, trivial⟩
    cases hx : e x <;> rw [hx] at p3 <;> simp only at p3 ⊢ <;> exact isCur_ext h p3
   ·exact hp.elim
  ·exact hp.elim
 case box t x => exact ⟨plainD_ext h hp, trivial⟩
 case slice t x l' h' m =>
  cases hx : e x <;> rw [hx] at hp <;> simp only at hp ⊢ <;> first
   | exact ⟨hp, trivial⟩
   | exact hp.elim
   | skip
  ·rename_i id r
   cases hro : rowsOf a (.osl id r) with
   | none => rw [hro] at hp; exact hp.2.elim
   | some y => rw [hro] at hp; rw [rowsOf_ext h hro]; exact ⟨hp, rfl⟩
  ·obtain ⟨h1, h2, h3⟩ := hp
   obtain ⟨y, hy⟩ := Option.isSome_iff_exists.1 h2
   rw [rowsOf_ext h hy]
   exact ⟨⟨h1, rfl, h3⟩, trivial⟩
 case lookup t x i ok =>
  split at hp
  ·rename_i h1 h2; rw [h1, mapOf_ext h h2]; exact ⟨hp, rfl⟩
  ·exact hp.elim
 case build t ps =>
  refine ⟨?_, trivial⟩
  split at hp
  ·exact ⟨hp.1, List.all_eq_true.2 fun p hm => plainD_ext h (List.all_eq_true.1 hp.2.1 p hm), hp.2.2⟩
  ·exact hp.elim
 case buildSlice t n ps =>
  refine ⟨?_, trivial⟩
  split at hp
  ·obtain ⟨h1, h2, h3, h4, h5, h6, h7⟩ := hp
   refine ⟨h1, h2, h3, h4, h5, ?_, h7⟩
   refine List.all_eq_true.2 fun p hm => ?_
   have := List.all_eq_true.1 h6 p hm
   rw [Bool.and_eq_true] at this ⊢
   exact ⟨plainD_ext h this.1, this.2⟩
  ·exact hp.elim
 case call c =>
  obtain ⟨cal, args, ts⟩ := c
  cases cal with
  | builtin bi => exact bVal_ext h hp
  | value f => exact hp.elim
  | invoke r m => exact hp.elim
end
theorem mxL_mem : ∀ {l : List DVal} {d : DVal}, d ∈ l → mx d ≤ mxL l
 | x :: l, d, h => by
  simp only [mxL]
  rcases List.mem_cons.1 h with rfl | h
  ·omega
  ·have := mxL_mem h; omega
theorem mxR_mem : ∀ {l : List (List DVal)} {d : List DVal}, d ∈ l → mxL d ≤ mxR l
 | x :: l, d, h => by
  simp only [mxR]
  rcases List.mem_cons.1 h with rfl | h
  ·omega
  ·have := mxR_mem h; omega
theorem mxL_le {n : Nat} : ∀ {l : List DVal}, (∀ d ∈ l, mx d ≤ n) → mxL l ≤ n
 | [], _ => by simp [mxL]
 | x :: l, h => by
  simp only [mxL]
  have := h x List.mem_cons_self
  have := mxL_le (l := l) fun d hd => h d (List.mem_cons_of_mem _ hd)
  omega
theorem mxR_le {n : Nat} : ∀ {l : List (List DVal)}, (∀ d ∈ l, mxL d ≤ n) → mxR l ≤ n
 | [], _ => by simp [mxR]
 | x :: l, h => by
  simp only [mxR]
  have := h x List.mem_cons_self
  have := mxR_le (l := l) fun d hd => h d (List.mem_cons_of_mem _ hd)
  omega
theorem mx_headD (l : List DVal) : mx (l.headD .any) ≤ mxL l := by
 cases l with
 | nil => simp [mx, mxL]
 | cons d l => simp only [List.headD_cons, mxL]; omega
theorem mx_getD (l : List DVal) (i : Nat) : mx (l.getD i .any) ≤ mxL l := by
 rw [List.getD_eq_getElem?_getD]
 cases h : l[i]? with
 | none => simp [mx]
 | some d => exact mxL_mem (List.mem_of_getElem? h)
theorem mxR_getD (l : List (List DVal)) (i : Nat) : mxL (l.getD i []) ≤ mxR l := by
 rw [List.getD_eq_getElem?_getD]
 cases h : l[i]? with
 | none => simp [mxL]
 | some d => exact mxR_mem (List.mem_of_getElem? h)
section
variable {P : Program} {own : List Ent} {e : Operand → DVal} {n : Nat}
theorem cellsAt_mx {p : DVal} {cs : List DVal} (hc : cellsAt own p = some cs) : mxL cs ≤ max (mx p) (mxE own) := by
 unfold cellsAt at hc
 split at hc
 ·simp only [Option.some.injEq] at hc; subst hc; simp only [mx]; omega
 ·split at hc
  ·rename_i x hx
   split at hc
   ·split at hc
    ·rename_i cs0 hob
     simp only [Option.some.injEq] at hc; subst hc
     have h1 := (mem_mxE (findE_ent hx).1).2
     rw [hob] at h1
     simp only [mxO] at h1
     exact Nat.le_trans (mxL_drop _ _) (by omega)
    ·rename_i g vs hob
     simp only [Option.some.injEq] at hc; subst hc
     refine Nat.le_trans (mxL_drop _ _) ?_
     rw [mxL_globD]; exact Nat.zero_le _
    ·simp at hc
   ·simp at hc
  ·simp at hc
 ·split at hc
  ·rename_i x hx
   split at hc
   ·split at hc
    ·rename_i es hob
     split at hc
     ·rw [Option.map_eq_some_iff] at hc
      obtain ⟨c0, h0, rfl⟩ := hc
      have h1 := (mem_mxE (findE_ent hx).1).2
      rw [hob] at h1
      simp only [mxO] at h1
      have h2 := mxR_mem (List.mem_of_getElem? h0)
      exact Nat.le_trans (mxL_drop _ _) (by omega)
     ·simp at hc
    ·simp at hc
   ·simp at hc
  ·simp at hc
 ·simp at hc
theorem fillD_mx {place : Nat → Option (Nat × Nat)} : ∀ (ps : List (Nat × DVal)) (z r : List DVal), fillD place z ps = some r → mxL z ≤ n → (∀ p ∈ ps, mx p.2 ≤ n) → mxL r ≤ n
 | [], z, r, h, hz, _ => by simp only [fillD, Option.some.injEq] at h; subst h; exact hz
 | (i, d) :: ps, z, r, h, hz, hp => by
  simp only [fillD] at h
  split at h
  ·simp at h
  ·split at h
   ·refine fillD_mx ps _ r h ?_ fun p hm => hp p (List.mem_cons_of_mem _ hm)
    have h2 := hp (i, d) List.mem_cons_self
    refine Nat.le_trans (splice_mx z _ (cellsD d)) ?_
    rw [mx_cellsD]
    simp only at h2
    omega
   ·simp at h
theorem tZero_mx {t : TypeId} {z : List DVal} (h : tZero P t = some z) : mxL z = 0 := by
 have h1 : ∀ v, mx (ofV1 v) = 0 := by
  intro v
  unfold ofV1
  split <;> (try split) <;> simp [mx]
 obtain ⟨zv, _, rfl⟩ := tZero_ok (w := default) h
 have : mxL (zv.cells.toList.map ofV1) ≤ 0 := mxL_le fun d hd => by
  obtain ⟨v, _, rfl⟩ := List.mem_map.1 hd
  rw [h1]; omega
 omega
theorem dbin_mx {op : BinOp} {t : TypeId} {x y d : DVal} (h : dbin P op t x y = some d) : mx d = 0 := by
 unfold dbin at h
 repeat' split at h
 all_goals first
  | (simp only [Option.some.injEq] at h; subst h; rfl)
  | simp at h
theorem bVal_mx {bi : Builtin} {ds : List DVal} : mx (bVal own bi ds) = 0 := by
 unfold bVal
 repeat' split
 all_goals rfl
theorem mx_idxVal {d : DVal} {i : Int} (hn : mxE own ≤ n) (hd : mx d ≤ n) : mx (idxVal own d i) ≤ n := by
 unfold idxVal
 split
 ·rename_i k bs es
  simp only [mx] at hd ⊢
  exact Nat.le_trans (mxR_getD _ _) hd
 ·split
  ·simpa [mx] using hd
  ·simp [mx]
 ·simpa [mx] using hd
 ·simp [mx]
theorem mx_pickV {t : Bool} {x y : DVal} (hx : mx x ≤ n) (hy : mx y ≤ n) : mx (pickV t x y) ≤ n := by
 unfold pickV
 split <;> first
  | (simp [mx]; done)
  | (split <;> assumption)
theorem mapOf_mx {p : DVal} {ks vs : List DVal} (hc : mapOf own p = some (ks, vs)) : mxL vs ≤ max (mx p) (mxE own) := by
 unfold mapOf at hc
 split at hc
 ·simp only [Option.some.injEq, Prod.mk.injEq] at hc
  obtain ⟨rfl, rfl⟩ := hc
  simp only [mx]; omega
 ·simp only [Option.some.injEq, Prod.mk.injEq] at hc
  obtain ⟨rfl, rfl⟩ := hc
  simp [mxL]
 ·split at hc
  ·rename_i e he
   split at hc
   ·split at hc
    ·rename_i hob
     simp only [Option.some.injEq, Prod.mk.injEq] at hc
     obtain ⟨rfl, rfl⟩ := hc
     have := (mem_mxE (findE_ent he).1).2
     rw [hob] at this
     simp only [mxO] at this
     omega
    ·rename_i hob
     simp only [Option.some.injEq, Prod.mk.injEq] at hc
     obtain ⟨rfl, rfl⟩ := hc
     have := (mem_mxE (findE_ent he).1).2
     rw [hob] at this
     simp only [mxO] at this
     omega
    ·simp at hc
   ·simp at hc
  ·simp at hc
 ·simp at hc
theorem mx_ofV (v : Value) : mx (ofV v) = 0 := by
 have h1 : ∀ v, mx (ofV1 v) = 0 := by
  intro v
  unfold ofV1
  split <;> (try split) <;> simp [mx]
 unfold ofV
 split
 ·rename_i cs
  simp only [mx]
  generalize cs.toList = l
  induction l with
  | nil => simp [mxL]
  | cons v l ih => simp [mxL, h1, ih]
 ·exact h1 _
theorem tZeroD_mx {t : TypeId} {z : DVal} (h : tZeroD P t = some z) : mx z = 0 := by
 unfold tZeroD at h
 split at h
 ·rw [Option.map_eq_some_iff] at h
  obtain ⟨v, _, rfl⟩ := h
  exact mx_ofV v
 ·simp at h
theorem n_mx (hn : mxE own ≤ n) (op : Op) (h : ∀ x ∈ op.operands, mx (e x) ≤ n) : mx (nVal P own e op) ≤ n := by
 have any0 : mx DVal.any ≤ n := by simp [mx]
 have parts : ∀ (ps : Array (Nat × Operand)), (∀ x ∈ (ps.toList.map (·.2)).toArray, mx (e x) ≤ n) → ∀ p ∈ ps.toList, mx (e p.2) ≤ n := by
  intro ps h p hp
  exact h p.2 (by simpa using ⟨p.1, by simpa using hp⟩)
 cases op <;> simp only [Op.operands] at h <;> simp only [nVal] <;> try exact any0
 case move x => exact h x (by simp)
 case assign x => exact h x (by simp)
 case nilCheck x => exact h x (by simp)
 case pick c x y =>
  split
  ·exact mx_pickV (h x (by simp)) (h y (by simp))
  ·exact any0
 case fieldAddr t x f =>
  have := h x (by simp)
  split
  ·rename_i hx; rw [hx] at this; simp only [mx] at this ⊢; exact Nat.le_trans (mxL_drop _ _) this
  ·rename_i hx; rw [hx] at this; simpa [mx] using this
  ·rename_i hx; rw [hx] at this; simpa [mx] using this
  ·exact any0
 case load t x =>
  have := h x (by simp)
  split
  ·rename_i h3; have := cellsAt_mx h3; simp only [mx]; exact Nat.le_trans (mxL_take _ _) (by omega)
  ·rename_i h3; have := cellsAt_mx h3; exact Nat.le_trans (mx_headD _) (by omega)
  ·exact any0
 case indexAddr t x i =>
  split
  ·exact mx_idxVal hn (h x (by simp))
  ·split
   ·have := h x (by simp)
    unfold arrV
    split
    ·rename_i hx; rw [hx] at this; simp only [mx] at this ⊢; exact Nat.le_trans (mxL_drop _ _) this
    ·rename_i hx; rw [hx] at this; simpa [mx] using this
    ·rename_i hx; rw [hx] at this; simpa [mx] using this
    ·exact any0
   ·exact any0
  ·exact any0
 case index t x i =>
  split
  ·simp [mx]
  ·rename_i cs ik n hx hi
   have := h x (by simp)
   rw [hx] at this
   simp only [mx] at this
   exact Nat.le_trans (mx_headD _) (Nat.le_trans (mxL_drop _ _) this)
  ·exact any0
 case field t x f =>
  have := h x (by simp)
  split
  ·rename_i hx
   rw [hx] at this
   simp only [mx] at this
   split
   ·simp only [mx]; exact Nat.le_trans (mxL_take _ _) (Nat.le_trans (mxL_drop _ _) this)
   ·exact Nat.le_trans (mx_headD _) (Nat.le_trans (mxL_drop _ _) this)
  ·exact any0
 case binOp op t x y yt =>
  cases hd : dbin P op t (e x) (e y) with
  | none => exact any0
  | some d => simp [dbin_mx hd]
 case unOp op t x =>
  split
  ·simp [mx]
  ·simp [mx]
  ·exact any0
 case convert src dst x =>
  have := h x (by simp)
  split
  ·split
   ·simp [mx]
   ·exact any0
  ·exact this
 case extract x i =>
  have := h x (by simp)
  split
  ·rename_i hx; rw [hx] at this; simp only [mx] at this; exact Nat.le_trans (mx_getD _ _) this
  ·exact any0
 case makeFunc f us cs =>
  simp only [mx]
  have h1 : mxL (us.toList.map e) ≤ n := mxL_le fun d hd => by
   obtain ⟨x, hx, rfl⟩ := List.mem_map.1 hd
   exact h x (by simp; left; simpa using hx)
  have h2 : mxL (cs.toList.map e) ≤ n := mxL_le fun d hd => by
   obtain ⟨x, hx, rfl⟩ := List.mem_map.1 hd
   exact h x (by simp; right; simpa using hx)
  omega
 case makeInterface t x => simp only [mx]; exact h x (by simp)
 case slice t x l h' m =>
  have := h x (by simp)
  split
  ·rename_i hx; rw [hx] at this; simp only [mx] at this ⊢; exact Nat.le_trans (mxR_take _ _) (Nat.le_trans (mxR_drop _ _) this)
  ·simp [mx]
  ·rename_i hx
   rw [hx] at this
   split
   ·simpa [mx] using this
   ·exact any0
  ·rename_i hx; rw [hx] at this; simpa [mx] using this
  ·simp [mx]
  ·exact any0
 case lookup t x i ok =>
  have hx := h x (by simp)
  split
  ·rename_i kt et ks vs ht hc
   have hvs := mapOf_mx hc
   have key : mx (match lookI ks (e i) with | some j => vs.getD j .any | none => (tZeroD P et).getD .any) ≤ n := by
    split
    ·exact Nat.le_trans (mx_getD _ _) (by omega)
    ·cases hz : tZeroD P et with
     | none => exact any0
     | some z => simp [tZeroD_mx hz]
   cases ok
   ·exact key
   ·exact Nat.max_le.2 ⟨key, by simp [mx, mxL]⟩
  ·exact any0
 case box t x => simp only [mx, mx_cellsD]; exact h x (by simp)
 case build t ps =>
  have hp := parts ps h
  split
  ·rename_i z hz
   simp only [mx]
   cases hf : fillD (tPlace P t) z (ps.toList.map fun p => (p.1, e p.2)) with
   | none => simp [mxL]
   | some r =>
    refine fillD_mx _ z r hf (by rw [tZero_mx hz]; omega) ?_
    intro p hm
    obtain ⟨q, hq, rfl⟩ := List.mem_map.1 hm
    exact hp q hq
  ·exact any0
 case buildSlice t len ps =>
  have hp := parts ps h
  split
  ·simp only [mx]
   refine mxR_le fun cs hm => ?_
   obtain ⟨q, hq, rfl⟩ := List.mem_map.1 hm
   rw [mx_cellsD]; exact hp q hq
  ·exact any0
 case call c =>
  split
  ·rw [bVal_mx]; omega
  ·exact any0
theorem mx_strip {l : List (Nat × DVal)} : ∀ xs : List Operand, okL true (ev l) xs → ∀ x ∈ xs, mx (stripE l x) ≤ mx (ev l x)
 | [], _, x, hx => by cases hx
 | y :: ys, h, x, hx => by
  simp only [okL] at h
  rcases List.mem_cons.1 hx with rfl | hx
  ·unfold stripE
   cases hq : ev l x <;> simp only [strip] <;> try exact Nat.le_refl _
   rw [hq] at h
   simp only [okG] at h
   simp [mx, h.1 trivial]
  ·exact mx_strip ys h.2 x hx
theorem mx_stripE {l : List (Nat × DVal)} {x : Operand} (h : okG true (ev l x)) : mx (stripE l x) ≤ mx (ev l x) := by
 unfold stripE
 cases hq : ev l x <;> simp only [strip] <;> try exact Nat.le_refl _
 rw [hq] at h
 simp only [okG] at h
 simp [mx, h trivial]
theorem mx_pickV_le (t : Bool) (x y : DVal) : mx (pickV t x y) ≤ mx (if t then x else y) := by
 unfold pickV
 split <;> first
  | (simp [mx]; done)
  | exact Nat.le_refl _
theorem okOp_mx {l : List (Nat × DVal)} {op : Op} (hok : okOp true (ev l) op) (hp : nPre P own (stripE l) op) (hn : mxE own ≤ n) (h : ∀ x ∈ op.operands, mx (ev l x) ≤ n) : mx (nVal P own (stripE l) op) ≤ n := by
 by_cases hpk : ∃ x a b, op = .pick x a b
 ·obtain ⟨x, a, b, rfl⟩ := hpk
  simp only [okOp] at hok
  obtain ⟨h1, h2⟩ := hok
  simp only [nPre] at hp
  cases hx : stripE l x <;> rw [hx] at hp <;> try exact hp.elim
  rename_i t
  have h2 := h2 t hx
  simp only [nVal, hx]
  refine Nat.le_trans (mx_pickV_le _ _ _) ?_
  cases t
  ·exact Nat.le_trans (mx_stripE (h2.2 rfl)) (h b (by simp [Op.operands]))
  ·exact Nat.le_trans (mx_stripE (h2.1 rfl)) (h a (by simp [Op.operands]))
 ·have hok' : okL true (ev l) op.operands.toList := by
   unfold okOp at hok
   split at hok
   ·exact absurd ⟨_, _, _, rfl⟩ hpk
   ·exact hok
  exact n_mx hn op fun x hx => Nat.le_trans (mx_strip _ hok' x (by simpa using hx)) (h x hx)
end
section
variable {P : Program} {o : Oper} {l l' : List (Nat × DVal)} {own : List Ent} {r n : Nat}
theorem eRes_congr {e1 e2 : Operand → DVal} (h : ∀ x ∈ o.op.operands, e1 x = e2 x) : eRes P o e1 own r = eRes P o e2 own r := by
 unfold eRes
 obtain ⟨dst, op, type, pos, after, guard⟩ := o
 simp only at h ⊢
 cases op <;> simp only [Op.operands] at h <;> simp only
 case box t x => rw [h x (by simp)]
 case store t a x => rw [h a (by simp), h x (by simp)]
 case mapUpdate t m k x => rw [h m (by simp), h k (by simp), h x (by simp)]
 case makeSlice t l c => rw [h l (by simp), h c (by simp)]
 case buildSlice t n ps =>
  have hc := (n_congr0 (P := P) (own := own) (e := e1) (e' := e2) (.buildSlice t n ps) h).1
  have e1 : (ps.toList.map fun p => cellsD (e1 p.2)) = ps.toList.map fun p => cellsD (e2 p.2) := List.map_congr_left fun p hm => by rw [h p.2 (by simpa using ⟨p.1, by simpa using hm⟩)]
  rw [propext hc, e1]
 case call c =>
  obtain ⟨cal, args, ts⟩ := c
  cases cal with
  | builtin b =>
   have : args.toList.map (e1) = args.toList.map (e2) := List.map_congr_left fun x hx => h x (by simp [Call.operands]; simpa using hx)
   cases b <;> simp only [this]
  | value f => rfl
  | invoke a b => rfl
theorem mxE_upE (own : List Ent) (id r : Nat) (obj : DObj) : mxE (upE own id r obj) ≤ max (max (r + 1) (mxO obj)) (mxE own) := by
 have : mxE (delE own id) ≤ mxE own := by
  induction own with
  | nil => simp [delE]
  | cons e t ih =>
   simp only [delE]
   split
   ·simp only [mxE]; omega
   ·simp only [mxE]; omega
 simp only [upE, mxE]
 omega
theorem eRes_mx {x : ERes} {ed : Operand → DVal} (h : eRes P o ed own r = some x) (hp : x.pre) (ho : mxE own ≤ n) (hev : ∀ y ∈ o.op.operands, mx (ed y) ≤ n) (hr : n ≤ r) : mx x.d ≤ r + 1 ∧ mxE x.own ≤ r + 1 := by
 obtain ⟨dst, op, type, pos, after, guard⟩ := o
 unfold eRes at h
 simp only at h
 cases op <;> simp only [reduceCtorEq] at h
 case box t y =>
  split at h
  ·rename_i i
   simp only [Option.some.injEq] at h
   subst h
   refine ⟨by simp [mx], Nat.le_trans (mxE_upE _ _ _ _) ?_⟩
   have := hev y (by simp [Op.operands])
   simp only [mxO, mx_cellsD]
   omega
  ·simp at h
 case buildSlice t len ps =>
  split at h
  ·simp only [Option.some.injEq] at h
   subst h
   refine ⟨by simp [mx], Nat.le_trans (mxE_upE _ _ _ _) ?_⟩
   have : mxR (ps.toList.map fun p => cellsD (ed p.2)) ≤ n := mxR_le fun cs hm => by
    obtain ⟨p, hp', rfl⟩ := List.mem_map.1 hm
    rw [mx_cellsD]
    exact hev p.2 (by simpa [Op.operands] using ⟨p.1, by simpa using hp'⟩)
   simp only [mxO]
   omega
  ·simp at h
 case alloc t =>
  split at h
  ·rename_i i z hi hz
   simp only [Option.some.injEq] at h
   subst h
   refine ⟨by simp [mx], Nat.le_trans (mxE_upE _ _ _ _) ?_⟩
   simp only [mxO, tZero_mx hz]
   omega
  ·simp at h
 case store t ad y =>
  split at h
  ·rename_i id r' off had
   split at h
   ·rename_i e he
    split at h
    ·rename_i cs hob
     simp only [Option.some.injEq] at h
     subst h
     refine ⟨by simp [mx], Nat.le_trans (mxE_upE _ _ _ _) ?_⟩
     simp only at hp
     obtain ⟨h1, h2⟩ := mem_mxE (findE_ent he).1
     rw [hob] at h2
     simp only [mxO] at h2 ⊢
     have h3 := splice_mx cs off (cellsD (ed y))
     have h4 := hev y (by simp [Op.operands, Call.operands])
     rw [mx_cellsD] at h3
     have := hp.1
     omega
    ·simp at h
   ·simp at h
  ·unfold eStoreRow at h
   split at h
   ·rename_i e he
    split at h
    ·rename_i hob
     split at h
     ·rename_i c0 hc0
      simp only [Option.some.injEq] at h
      subst h
      refine ⟨by simp [mx], Nat.le_trans (mxE_upE _ _ _ _) ?_⟩
      simp only at hp
      obtain ⟨h1, h2⟩ := mem_mxE (findE_ent he).1
      rw [hob] at h2
      simp only [mxO] at h2 ⊢
      have h3 := splice_mx c0
      have h4 := hev y (by simp [Op.operands, Call.operands])
      have h5 := hp.1
      have h6 := mxR_at hc0
      refine Nat.max_le.2 ⟨Nat.max_le.2 ⟨by omega, mxR_set _ _ (by omega) (Nat.le_trans (h3 _ _) ?_)⟩, by omega⟩
      rw [mx_cellsD]
      omega
     ·simp at h
    ·simp at h
   ·simp at h
  ·simp at h
 case makeSlice t lo co =>
  unfold eMake at h
  split at h
  ·rename_i hz _ _
   simp only [Option.some.injEq] at h
   subst h
   refine ⟨by simp [mx], Nat.le_trans (mxE_upE _ _ _ _) ?_⟩
   simp only [mxO]
   unfold tZeroE at hz
   split at hz
   ·refine Nat.max_le.2 ⟨Nat.max_le.2 ⟨by omega, Nat.le_trans (mxR_rep (Nat.le_of_eq (tZero_mx hz))) (by omega)⟩, by omega⟩
   ·simp at hz
  ·simp at h
 case makeMap t rv =>
  split at h
  ·simp only [Option.some.injEq] at h
   subst h
   refine ⟨by simp [mx], Nat.le_trans (mxE_upE _ _ _ _) ?_⟩
   simp only [mxO, mxL]
   omega
  ·simp at h
 case mapUpdate t m k x =>
  split at h
  ·split at h
   ·rename_i e he
    split at h
    ·rename_i ks vs hob
     simp only [Option.some.injEq] at h
     subst h
     refine ⟨by simp [mx], Nat.le_trans (mxE_upE _ _ _ _) ?_⟩
     simp only at hp
     obtain ⟨h1, h2⟩ := mem_mxE (findE_ent he).1
     rw [hob] at h2
     simp only [mxO] at h2 ⊢
     have h3 := mxL_updK ks (ed k)
     have h4 := mxL_updV ks vs (ed k) (ed x)
     have h5 := hev k (by simp [Op.operands, Call.operands])
     have h6 := hev x (by simp [Op.operands, Call.operands])
     have := hp.1
     omega
    ·simp at h
   ·simp at h
  ·simp at h
 case call c =>
  obtain ⟨cal, args, ats⟩ := c
  cases cal <;> simp only [reduceCtorEq] at h
  rename_i b
  cases b <;> simp only [reduceCtorEq] at h
  case append =>
   unfold eAppend at h
   split at h
   ·rename_i da db t t' hargs hts
    split at h
    ·rename_i i k bs et _ _
     split at h
     ·rename_i x hstr
      split at h
      ·rename_i id es hdest
       simp only [Option.some.injEq] at h
       subst h
       refine ⟨by simp [mx], Nat.le_trans (mxE_upE _ _ _ _) ?_⟩
       simp only [mxO, mxR_append, mx_bytesD]
       have h1 : mxR es ≤ n := destOf_mx hdest (by omega)
       omega
      ·simp at h
     split at h
     ·rename_i id es k2 es2 hdest hsrc
      simp only [Option.some.injEq] at h
      subst h
      have hda : mx da ≤ n := by
       have : da ∈ args.toList.map (ed) := by rw [hargs]; simp
       obtain ⟨y, hy, rfl⟩ := List.mem_map.1 this
       exact hev y (by simpa [Op.operands, Call.operands] using hy)
      have hdb : mx db ≤ n := by
       have : db ∈ args.toList.map (ed) := by rw [hargs]; simp
       obtain ⟨y, hy, rfl⟩ := List.mem_map.1 this
       exact hev y (by simpa [Op.operands, Call.operands] using hy)
      refine ⟨by simp [mx], Nat.le_trans (mxE_upE _ _ _ _) ?_⟩
      simp only [mxO, mxR_append]
      have h1 : mxR es ≤ n := by
       exact destOf_mx hdest (by omega)
      have h2 : mxR es2 ≤ n := by
       unfold rowsN at hsrc
       split at hsrc
       ·simp only [Option.some.injEq, Prod.mk.injEq] at hsrc
        obtain ⟨_, rfl⟩ := hsrc
        simp [mxR]
       ·simp only [Option.some.injEq, Prod.mk.injEq] at hsrc
        obtain ⟨_, rfl⟩ := hsrc
        simp [mxR]
       ·rw [Option.map_eq_some_iff] at hsrc
        obtain ⟨⟨k', b', es'⟩, h1, h2⟩ := hsrc
        simp only [Prod.mk.injEq] at h2
        obtain ⟨_, rfl⟩ := h2
        have := rowsOf_mx h1
        omega
      omega
     ·simp at h
    ·simp at h
   ·simp at h
  case copy =>
   unfold eCopy at h
   split at h
   ·rename_i d sd t t' hargs hts
    split at h
    ·rename_i k k0 id r' i m et k' bs es k2 es2 ht hpart hsrc
     simp only [Option.some.injEq] at h
     subst h
     obtain ⟨e, bs0, he, her, hob, hdd⟩ := partD_ok hpart
     have hdb : mx sd ≤ n := by
      have : sd ∈ args.toList.map (ed) := by rw [hargs]; simp
      obtain ⟨y, hy, rfl⟩ := List.mem_map.1 this
      exact hev y (by simpa [Op.operands, Call.operands] using hy)
     refine ⟨by simp [mx], Nat.le_trans (mxE_upE _ _ _ _) ?_⟩
     obtain ⟨h1, h2⟩ := mem_mxE (findE_ent he).1
     rw [hob] at h2
     simp only [mxO] at h2 ⊢
     have h3 : mxR (copyD es i m es2) ≤ n := copyD_mx (by omega) (rowsN_mx hsrc (by omega) hdb)
     omega
    ·simp at h
   ·simp at h
  case clear =>
   have key : ∀ {zs : List DVal} {t : TypeId} {es : List (List DVal)} {i m N : Nat}, tZeroE P t = some zs → mxR es ≤ N → mxR (clearD es i m zs) ≤ N := by
    intro zs t es i m N hz hes
    unfold tZeroE at hz
    split at hz
    ·unfold clearD
     rw [mxR_append, mxR_append]
     have := mxR_take i es
     have := mxR_drop (i + m) es
     have := mxR_rep (n := 0) (m := m) (Nat.le_of_eq (tZero_mx hz))
     omega
    ·simp at hz
   unfold eClear at h
   split at h
   ·split at h
    ·rename_i hz
     split at h
     ·split at h
      ·rename_i e he
       split at h
       ·rename_i hob
        simp only [Option.some.injEq] at h
        subst h
        refine ⟨by simp [mx, mxL], Nat.le_trans (mxE_upE _ _ _ _) ?_⟩
        simp only at hp
        obtain ⟨h1, h2⟩ := mem_mxE (findE_ent he).1
        rw [hob] at h2
        simp only [mxO] at h2 ⊢
        have h3 := hp.1
        exact Nat.max_le.2 ⟨Nat.max_le.2 ⟨by omega, key hz (by omega)⟩, by omega⟩
       ·simp at h
      ·simp at h
     ·split at h
      ·rename_i e he
       split at h
       ·rename_i hob
        simp only [Option.some.injEq] at h
        subst h
        refine ⟨by simp [mx, mxL], Nat.le_trans (mxE_upE _ _ _ _) ?_⟩
        simp only at hp
        obtain ⟨h1, h2⟩ := mem_mxE (findE_ent he).1
        rw [hob] at h2
        simp only [mxO] at h2 ⊢
        have h3 := hp.1
        exact Nat.max_le.2 ⟨Nat.max_le.2 ⟨by omega, key hz (by omega)⟩, by omega⟩
       ·simp at h
      ·simp at h
     ·simp at h
    ·simp at h
   ·simp at h
  case delete =>
   unfold eDelete at h
   split at h
   ·split at h
    ·split at h
     ·rename_i e he
      split at h
      ·rename_i ks vs hob
       simp only [Option.some.injEq] at h
       subst h
       exact hp.elim
      ·simp at h
     ·simp at h
    ·simp at h
   ·simp at h
end
def isBoxE (e : Ent) : Bool := match e.obj with | .box _ => true | _ => false
def hidE (l2 : List Nat) (q : Nat) (e : Ent) : Bool := l2.any fun c => decide (1000000 ≤ c) && c % 1000 == q && c / 1000000 == e.id + 1
def hidP (l2 : List Nat) (p q : Nat) : Bool := l2.any fun c => decide (1000000 ≤ c) && c % 1000 == q && c / 1000 % 1000 == p
def ownM (l1 l2 : List Nat) (k : Nat) (own : List Ent) : List Ent := if l2.contains k then [] else if l1.contains k then own.filter isBoxE else if l2.isEmpty then own else own.filter fun e => !hidE l2 k e
def isApp (o : Oper) : Bool := match o.op with
 | .call c => match c.callee with | .builtin .append => true | _ => false
 | _ => false
def isIx (o : Oper) : Bool := match o.op with | .indexAddr _ _ _ => true | _ => false
def isSto (o : Oper) : Bool := match o.op with | .store _ _ _ => true | _ => false
def touchD : DVal → Option Nat
 | .bx id _ _ => some id
 | .rx id _ _ _ _ => some id
 | _ => none
def touchO (slots : List (Nat × DVal)) (o : Oper) : Option Nat := match o.op with
 | .store _ a _ => touchD (stripE slots a)
 | _ => none
def tchOK (l2 : List Nat) (k : Nat) (slots : List (Nat × DVal)) (o : Oper) : Bool := l2.all fun c => decide (c < 1000000) || c / 1000 % 1000 != k || touchO slots o == some (c / 1000000 - 1)
def appOK (own : List Ent) (o : Oper) : Bool := !isApp o || (match o.dst with | some i => (match findE own i with | some e => !isBoxE e | none => true) | none => true)
def effSel (K : ContE) : ContE := ⟨fun d own' => K.f (.sel true d) own'⟩
theorem effSel_f (K : ContE) (d : DVal) (own' : List Ent) : (effSel K).f d own' = K.f (.sel true d) own' := id rfl
def effG (P : Program) (c : Bool) (o : Oper) (ed : Operand → DVal) (own : List Ent) (K : ContE) : Prop := match c with
 | true => effX P o ed own (effSel K)
 | false => K.f (.sel false .any) own
section
variable (P : Program) (nt : Nat) (ow l1 l2 : List Nat)
def dOpsX (ops : Array Oper) : List Oper → Nat → Cont → DS → Prop
 | [], _, K, s => K.f s
 | o :: rest, k, K, s => match o.guard with
  | none => if isEff ow o then dstOK nt o.dst = true ∧ (appOK s.own o = true ∧ tchOK l2 k s.slots o = true) ∧ effX P o (ev s.slots) s.own ⟨fun d own' => dOpsX ops rest (k + 1) K ⟨putS s.slots o.dst d, own'⟩⟩
   else dOpD P nt o ⟨s.slots, ownM l1 l2 k s.own⟩ ⟨fun s' => dOpsX ops rest (k + 1) K ⟨s'.slots, s.own⟩⟩
  | some (j, want) => gOK (gSlot ops s j) = true ∧ if isEff ow o then dstOK nt o.dst = true ∧ (appOK s.own o = true ∧ tchOK l2 k s.slots o = true) ∧ okOp (gB (gSlot ops s j) want) (ev s.slots) o.op ∧ effG P (gB (gSlot ops s j) want) o (stripE s.slots) s.own ⟨fun d own' => dOpsX ops rest (k + 1) K ⟨putS s.slots o.dst d, own'⟩⟩
   else dOpG P nt (gB (gSlot ops s j) want) o ⟨s.slots, ownM l1 l2 k s.own⟩ ⟨fun s' => dOpsX ops rest (k + 1) K ⟨s'.slots, s.own⟩⟩
def dOpsC (ops : Array Oper) (rest : List Oper) (k : Nat) (own : List Ent) (K : Cont) : Cont := ⟨fun s' => dOpsX P nt ow l1 l2 ops rest k K ⟨s'.slots, own⟩⟩
theorem dOpsC_f (ops : Array Oper) (rest : List Oper) (k : Nat) (own : List Ent) (K : Cont) (s' : DS) : (dOpsC P nt ow l1 l2 ops rest k own K).f s' = dOpsX P nt ow l1 l2 ops rest k K ⟨s'.slots, own⟩ := id rfl
def dOpsE (ops : Array Oper) (rest : List Oper) (k : Nat) (dst : Option Nat) (sl : List (Nat × DVal)) (K : Cont) : ContE := ⟨fun d own' => dOpsX P nt ow l1 l2 ops rest (k + 1) K ⟨putS sl dst d, own'⟩⟩
theorem dOpsE_f (ops : Array Oper) (rest : List Oper) (k : Nat) (dst : Option Nat) (sl : List (Nat × DVal)) (K : Cont) (d : DVal) (own' : List Ent) : (dOpsE P nt ow l1 l2 ops rest k dst sl K).f d own' = dOpsX P nt ow l1 l2 ops rest (k + 1) K ⟨putS sl dst d, own'⟩ := id rfl
theorem dOpsX_nil (ops : Array Oper) (k : Nat) (K : Cont) (s : DS) : dOpsX P nt ow l1 l2 ops [] k K s = K.f s := id rfl
theorem dOpsX_cons (ops : Array Oper) (o : Oper) (rest : List Oper) (k : Nat) (K : Cont) (s : DS) : dOpsX P nt ow l1 l2 ops (o :: rest) k K s = match o.guard with
 | none => if isEff ow o then dstOK nt o.dst = true ∧ (appOK s.own o = true ∧ tchOK l2 k s.slots o = true) ∧ effX P o (ev s.slots) s.own (dOpsE P nt ow l1 l2 ops rest k o.dst s.slots K)
  else dOpD P nt o ⟨s.slots, ownM l1 l2 k s.own⟩ (dOpsC P nt ow l1 l2 ops rest (k + 1) s.own K)
 | some (j, want) => gOK (gSlot ops s j) = true ∧ if isEff ow o then dstOK nt o.dst = true ∧ (appOK s.own o = true ∧ tchOK l2 k s.slots o = true) ∧ okOp (gB (gSlot ops s j) want) (ev s.slots) o.op ∧ effG P (gB (gSlot ops s j) want) o (stripE s.slots) s.own (dOpsE P nt ow l1 l2 ops rest k o.dst s.slots K)
  else dOpG P nt (gB (gSlot ops s j) want) o ⟨s.slots, ownM l1 l2 k s.own⟩ (dOpsC P nt ow l1 l2 ops rest (k + 1) s.own K) := id rfl
end
section
variable {P : Program} {nt : Nat} {ow l1 l2 : List Nat}
end
theorem mxS_putS (l : List (Nat × DVal)) (o : Option Nat) (d : DVal) : mxS (putS l o d) ≤ max (mx d) (mxS l) := by
 cases o <;> simp only [putS, mxS] <;> omega
theorem mxS_setS {l : List (Nat × DVal)} {S : Nat → Bool} {n : Nat} (hl : mxS l ≤ n) : ∀ (zs : List (Oper × DVal)) (i : Nat), (∀ (k : Nat) (z : Oper × DVal), zs[k]? = some z → S (i + k) = true → mx z.2 ≤ n) → mxS (setS l S i zs) ≤ n
 | [], _, _ => hl
 | (o, d) :: r, i, h => by
  have ih := mxS_setS (S := S) hl r (i + 1) (fun k z hz hS => h (k + 1) z (by simpa using hz) (by rwa [show i + 1 + k = i + (k + 1) by omega] at hS))
  simp only [setS]
  split
  ·rename_i hS
   refine Nat.le_trans (mxS_putS _ _ _) ?_
   have := h 0 (o, d) (by simp) (by simpa using hS)
   simp only at this
   omega
  ·exact ih
structure EffSpec (ow l1 l2 : List Nat) (ops : Array Oper) : Prop where
 two : ∀ (k i : Nat) (o o' : Oper), ops[k]? = some o → ops[i]? = some o' → isEff ow o = true → k = i ∨ (k < i ∧ ((masks ops.toList []).getD i 0).testBit k = true) ∨ (i < k ∧ ((masks ops.toList []).getD k 0).testBit i = true) ∨
  (isEff ow o' = false ∧ (((l2.contains i = true ∨ (l1.contains i = true ∧ isApp o = true)) ∨ ((l1.contains i = false ∧ isIx o' = true) ∧ isSto o = true)) ∨ ((l1.contains i = false ∧ isSto o = true) ∧ hidP l2 k i = true)))
theorem nodup_upE {own : List Ent} {id r : Nat} {obj : DObj} (h : (own.map (·.id)).Nodup) : ((upE own id r obj).map (·.id)).Nodup := by
 simp only [upE, List.map_cons, List.nodup_cons]
 refine ⟨fun hm => ?_, nodup_delE h⟩
 obtain ⟨e, he, h1⟩ := List.mem_map.1 hm
 exact (mem_delE.1 he).2 h1
theorem strip_mx {d : DVal} (h : ∀ c d', d = .sel c d' → c = true) : mx (strip d) = mx d := by
 cases d <;> try rfl
 rename_i c d'
 have := h c d' rfl
 subst this
 simp [strip, mx]
theorem okL_sel {e : Operand → DVal} : ∀ {l : List Operand}, okL true e l → ∀ x ∈ l, ∀ c d', e x = .sel c d' → c = true
 | [], _, x, hx, _, _, _ => by cases hx
 | y :: l, h, x, hx, c, d', he => by
  simp only [okL] at h
  rcases List.mem_cons.1 hx with rfl | hx
  ·have h1 := h.1
   rw [he] at h1
   exact h1 rfl
  ·exact okL_sel h.2 x hx c d' he
theorem Rel.selTrue {B : Base} {l : List (Nat × DVal)} {own : List Ent} {a : Act} {w : World} {loc : Nat → Loc} {dst : Option Nat} {d : DVal} (R : Rel B ⟨putS l dst d, own⟩ a w loc) : Rel B ⟨putS l dst (.sel true d), own⟩ a w loc where
 st := R.st
 upd := R.upd
 new := R.new
 ver := R.ver
 sl := by
  intro i
  have h := R.sl i
  cases dst with
  | none => exact h
  | some j =>
   simp only [putS, getS] at h ⊢
   split
   ·rename_i hj
    rw [if_pos hj] at h
    simp only [rd]
    exact ⟨fun _ => h, fun h' => by simp at h'⟩
   ·rename_i hj
    rw [if_neg hj] at h
    exact h
 nt := R.nt
 df := R.df
theorem OpOK1.ext {P : Program} {o : Oper} {own own' : List Ent} {e e' : Operand → DVal} {d : DVal} (h : OpOK1 P o own e d) (hx : ExtE own own') (he : ∀ x ∈ o.op.operands, e x = e' x) : OpOK1 P o own' e' d := by
 rcases h with ⟨c, g, args, hop, hcal, hp⟩ | ⟨hp, hdv⟩
 ·refine .inl ⟨c, g, args, hop, ?_, hp⟩
  rw [← callee_congr (fun x hx => he x (by rw [hop]; exact hx))]
  exact hcal
 ·obtain ⟨c1, c2⟩ := n_congr0 (P := P) (own := own) o.op he
  obtain ⟨h1, h2⟩ := n_ext hx o.op (c1.1 hp)
  exact .inr ⟨h1, by rw [h2, ← c2]; exact hdv⟩
theorem OpOK1.mx {P : Program} {o : Oper} {own : List Ent} {e : Operand → DVal} {d : DVal} {n : Nat} (h : OpOK1 P o own e d) (hn : mxE own ≤ n) (he : ∀ x ∈ o.op.operands, mx (e x) ≤ n) : mx d ≤ n := by
 rcases h with ⟨c, g, args, hop, hcal, hp⟩ | ⟨hp, rfl⟩
 ·rw [hp.2.1]; omega
 ·exact n_mx hn o.op he
theorem findE_upE_self {own : List Ent} {id r : Nat} {obj : DObj} : findE (upE own id r obj) id = some ⟨id, r, obj⟩ := by simp [upE, findE]
theorem findE_upE_ne {own : List Ent} {id r j : Nat} {obj : DObj} (h : j ≠ id) : findE (upE own id r obj) j = findE own j := by
 have hdel : ∀ own : List Ent, findE (delE own id) j = findE own j := by
  intro own
  induction own with
  | nil => rfl
  | cons e t ih =>
   simp only [delE]
   split
   ·rename_i he
    rw [ih]
    simp only [findE]
    rw [if_neg (by omega)]
   ·simp only [findE]
    rw [ih]
 unfold upE
 simp only [findE]
 rw [if_neg (by omega), hdel]
structure LenE (own own' : List Ent) : Prop where
 l : ∀ id e et k bs es, findE own id = some e → e.obj = .row et k bs es → ∃ e' et' es', findE own' id = some e' ∧ e'.r = e.r ∧ e'.obj = .row et' k bs es' ∧ es'.length = es.length
 v : ∀ id e, findE own id = some e → ∃ e', findE own' id = some e' ∧ e'.r = e.r
theorem LenE.refl (own : List Ent) : LenE own own := ⟨fun _ e et _ _ es h1 h2 => ⟨e, et, es, h1, rfl, h2, rfl⟩, fun _ e h => ⟨e, h, rfl⟩⟩
theorem LenE.trans {a b c : List Ent} (h1 : LenE a b) (h2 : LenE b c) : LenE a c := by
 refine ⟨fun id e et k bs es g1 g2 => ?_, fun id e g => ?_⟩
 ·obtain ⟨e', et', es', k1, k2, k3, k4⟩ := h1.l id e et k bs es g1 g2
  obtain ⟨e'', et'', es'', l1, l2, l3, l4⟩ := h2.l id e' et' k bs es' k1 k3
  exact ⟨e'', et'', es'', l1, l2.trans k2, l3, l4.trans k4⟩
 ·obtain ⟨e', k1, k2⟩ := h1.v id e g
  obtain ⟨e'', l1, l2⟩ := h2.v id e' k1
  exact ⟨e'', l1, l2.trans k2⟩
theorem LenE.upE {own : List Ent} {id r : Nat} {obj : DObj} {e0 : Ent} (h0 : findE own id = some e0) (hr : e0.r = r)
  (h : (∃ et et' k bs es es', e0.obj = .row et k bs es ∧ obj = .row et' k bs es' ∧ es'.length = es.length) ∨ (∃ c c', e0.obj = .box c ∧ obj = .box c')) : LenE own (upE own id r obj) ∧ LenE (upE own id r obj) own := by
 refine ⟨⟨?_, fun j e h1 => ?_⟩, ?_, fun j e h1 => ?_⟩
 rotate_left
 ·by_cases hj : j = id
  ·subst hj
   rw [h0] at h1
   simp only [Option.some.injEq] at h1
   subst h1
   exact ⟨_, findE_upE_self, hr.symm⟩
  ·exact ⟨e, by rw [findE_upE_ne hj]; exact h1, rfl⟩
 rotate_left
 ·by_cases hj : j = id
  ·subst hj
   rw [findE_upE_self] at h1
   simp only [Option.some.injEq] at h1
   subst h1
   exact ⟨e0, h0, hr⟩
  ·exact ⟨e, by rw [findE_upE_ne hj] at h1; exact h1, rfl⟩
 ·intro j e et k bs es h1 h2
  by_cases hj : j = id
  ·subst hj
   rw [h0] at h1
   simp only [Option.some.injEq] at h1
   subst h1
   rcases h with ⟨et1, et', k1, bs1, es1, es', g1, g2, g3⟩ | ⟨c, c', g1, g2⟩
   ·rw [h2] at g1
    simp only [DObj.row.injEq] at g1
    obtain ⟨rfl, rfl, rfl, rfl⟩ := g1
    exact ⟨_, et', es', findE_upE_self, hr.symm, g2, g3⟩
   ·rw [h2] at g1; simp at g1
  ·exact ⟨e, et, es, by rw [findE_upE_ne hj]; exact h1, rfl, h2, rfl⟩
 ·intro j e et k bs es h1 h2
  by_cases hj : j = id
  ·subst hj
   rw [findE_upE_self] at h1
   simp only [Option.some.injEq] at h1
   subst h1
   simp only at h2
   subst h2
   rcases h with ⟨et1, et', k1, bs1, es1, es', g1, g2, g3⟩ | ⟨c, c', g1, g2⟩
   ·simp only [DObj.row.injEq] at g2
    obtain ⟨rfl, rfl, rfl, rfl⟩ := g2
    exact ⟨e0, et1, es1, h0, hr, g1, g3.symm⟩
   ·simp at g2
  ·exact ⟨e, et, es, by rw [findE_upE_ne hj] at h1; exact h1, rfl, h2, rfl⟩
section
variable {P : Program} {B : Base} {s : DS}
end
end Go.Dm
end
