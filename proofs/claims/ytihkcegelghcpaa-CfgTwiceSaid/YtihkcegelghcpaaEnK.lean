/- The data machine, second make, part K: fewer own objects serve as well; which versions a result names. -/
import Derived.Test.YtihkcegelghcpaaEnJ
set_option linter.unusedSimpArgs false
set_option linter.unusedVariables false
namespace Go.Dm

/-- what is found in a is found in b -/
def ExtE (a b : List Ent) : Prop := ∀ id e, findE a id = some e → findE b id = some e

section
variable {P : Program} {a b : List Ent} {e : Operand → DVal}

theorem isCur_ext (h : ExtE a b) {id r : Nat} (hc : isCur a id r = true) : isCur b id r = true := by
  unfold isCur at hc ⊢
  split at hc
  · rename_i x hx; rw [h _ _ hx]; exact hc
  · simp at hc

theorem cellsAt_ext (h : ExtE a b) {p : DVal} {cs : List DVal} (hc : cellsAt a p = some cs) : cellsAt b p = some cs := by
  cases p <;> simp only [cellsAt] at hc ⊢ <;> try exact hc
  · split at hc
    · rename_i x hx; rw [h _ _ hx]; exact hc
    · simp at hc
  · split at hc
    · rename_i x hx; rw [h _ _ hx]; exact hc
    · simp at hc

theorem rowsOf_ext (h : ExtE a b) {p : DVal} {x : Nat × Nat × List (List DVal)} (hc : rowsOf a p = some x) : rowsOf b p = some x := by
  cases p <;> simp only [rowsOf] at hc ⊢ <;> try exact hc
  · split at hc
    · rename_i y hy; rw [h _ _ hy]; exact hc
    · simp at hc
  · split at hc
    · rename_i y hy; rw [h _ _ hy]; exact hc
    · simp at hc

theorem oneO_ext (h : ExtE a b) {d : DVal} (hc : oneO a d = true) : oneO b d = true := by
  cases d <;> simp only [oneO] at hc ⊢ <;> try exact hc
  · exact isCur_ext h hc
  · exact isCur_ext h hc
  · obtain ⟨x, hx⟩ := Option.isSome_iff_exists.1 hc
    rw [rowsOf_ext h hx]; rfl
  · exact isCur_ext h hc
  · exact isCur_ext h hc
  · split at hc
    · rename_i e he; rw [h _ e he]; exact hc
    · simp at hc

theorem plainD_ext (h : ExtE a b) {d : DVal} (hc : plainD a d = true) : plainD b d = true := by
  unfold plainD at hc ⊢
  exact List.all_eq_true.2 fun x hx => oneO_ext h (List.all_eq_true.1 hc x hx)

theorem mapOf_ext (h : ExtE a b) {p : DVal} {x : List DVal × List DVal} (hc : mapOf a p = some x) : mapOf b p = some x := by
  unfold mapOf at hc ⊢
  split at hc
  · exact hc
  · exact hc
  · rename_i id r
    cases hf : findE a id with
    | none => rw [hf] at hc; simp at hc
    | some e => rw [hf] at hc; simp only [h id e hf]; exact hc
  · simp at hc

theorem bVal_ext (h : ExtE a b) {bi : Builtin} {ds : List DVal} {ts : List TypeId} (hp : bPre P a bi ds ts) : bPre P b bi ds ts ∧ bVal b bi ds = bVal a bi ds := by
  unfold bPre at hp
  split at hp
  · rename_i d t
    cases d <;> simp only [bPre, bVal] at hp ⊢ <;> first
      | exact ⟨hp, trivial⟩
      | (obtain ⟨h1, h2⟩ := hp
         obtain ⟨x, hx⟩ := Option.isSome_iff_exists.1 h1
         rw [hx, rowsOf_ext h hx]
         exact ⟨⟨rfl, h2⟩, rfl⟩)
      | (obtain ⟨h1, h2⟩ := hp
         split at h2
         · rename_i hx; rw [mapOf_ext h hx]; exact ⟨⟨h1, h2⟩, rfl⟩
         · exact h2.elim)
  · simp only [bPre, bVal]; exact ⟨hp, trivial⟩
  · simp only [bPre, bVal]; exact ⟨hp, trivial⟩
  · exact hp.elim

theorem n_ext (h : ExtE a b) (op : Op) (hp : nPre P a e op) : nPre P b e op ∧ nVal P b e op = nVal P a e op := by
  cases op <;> simp only [nPre, nVal] at hp ⊢ <;> first
    | exact ⟨hp, trivial⟩
    | exact hp.elim
    | trivial
    | skip
  case fieldAddr t x f =>
    refine ⟨?_, trivial⟩
    split at hp
    · exact hp
    · exact ⟨hp.1, isCur_ext h hp.2⟩
    · exact ⟨hp.1, isCur_ext h hp.2⟩
    · exact hp.elim
  case nilCheck x =>
    refine ⟨?_, trivial⟩
    split at hp
    · trivial
    · exact isCur_ext h hp
    · exact isCur_ext h hp
    · trivial
    · exact hp.elim
  case load t x =>
    split at hp
    · rename_i h1 h2 h3; rw [h1, h2, cellsAt_ext h h3]; exact ⟨hp, rfl⟩
    · rename_i h1 h3; rw [h1, cellsAt_ext h h3]; exact ⟨hp, rfl⟩
    · exact hp.elim
  case indexAddr t x i =>
    split at hp
    · rename_i ik n k bs k' bs' es h1 h2 h3
      rw [h1, h2, rowsOf_ext h h3]
      refine ⟨hp, ?_⟩
      simp only
      cases hx : e x <;> rw [hx] at h3 <;> simp only [idxVal]
      rw [h3, rowsOf_ext h h3]
    · exact hp.elim
  case box t x => exact ⟨plainD_ext h hp, trivial⟩
  case slice t x l' h' m =>
    cases hx : e x <;> rw [hx] at hp <;> simp only at hp ⊢ <;> first
      | exact ⟨hp, trivial⟩
      | exact hp.elim
      | skip
    · rename_i id r
      cases hro : rowsOf a (.osl id r) with
      | none => rw [hro] at hp; exact hp.2.elim
      | some y => rw [hro] at hp; rw [rowsOf_ext h hro]; exact ⟨hp, rfl⟩
    · obtain ⟨h1, h2, h3⟩ := hp
      obtain ⟨y, hy⟩ := Option.isSome_iff_exists.1 h2
      rw [rowsOf_ext h hy]
      exact ⟨⟨h1, rfl, h3⟩, trivial⟩
  case lookup t x i ok =>
    split at hp
    · rename_i h1 h2; rw [h1, mapOf_ext h h2]; exact ⟨hp, rfl⟩
    · exact hp.elim
  case build t ps =>
    refine ⟨?_, trivial⟩
    split at hp
    · exact ⟨hp.1, List.all_eq_true.2 fun p hm => plainD_ext h (List.all_eq_true.1 hp.2.1 p hm), hp.2.2⟩
    · exact hp.elim
  case buildSlice t n ps =>
    refine ⟨?_, trivial⟩
    split at hp
    · obtain ⟨h1, h2, h3, h4, h5, h6, h7⟩ := hp
      refine ⟨h1, h2, h3, h4, h5, ?_, h7⟩
      refine List.all_eq_true.2 fun p hm => ?_
      have := List.all_eq_true.1 h6 p hm
      rw [Bool.and_eq_true] at this ⊢
      exact ⟨plainD_ext h this.1, this.2⟩
    · exact hp.elim
  case call c =>
    obtain ⟨cal, args, ts⟩ := c
    cases cal with
    | builtin bi => exact bVal_ext h hp
    | value f => exact hp.elim
    | invoke r m => exact hp.elim
end

/-! ### versions named -/

theorem mxL_mem : ∀ {l : List DVal} {d : DVal}, d ∈ l → mx d ≤ mxL l
  | x :: l, d, h => by
    simp only [mxL]
    rcases List.mem_cons.1 h with rfl | h
    · omega
    · have := mxL_mem h; omega
theorem mxR_mem : ∀ {l : List (List DVal)} {d : List DVal}, d ∈ l → mxL d ≤ mxR l
  | x :: l, d, h => by
    simp only [mxR]
    rcases List.mem_cons.1 h with rfl | h
    · omega
    · have := mxR_mem h; omega
theorem mxL_le {n : Nat} : ∀ {l : List DVal}, (∀ d ∈ l, mx d ≤ n) → mxL l ≤ n
  | [], _ => by simp [mxL]
  | x :: l, h => by
    simp only [mxL]
    have := h x List.mem_cons_self
    have := mxL_le (l := l) fun d hd => h d (List.mem_cons_of_mem _ hd)
    omega
theorem mxR_le {n : Nat} : ∀ {l : List (List DVal)}, (∀ d ∈ l, mxL d ≤ n) → mxR l ≤ n
  | [], _ => by simp [mxR]
  | x :: l, h => by
    simp only [mxR]
    have := h x List.mem_cons_self
    have := mxR_le (l := l) fun d hd => h d (List.mem_cons_of_mem _ hd)
    omega
theorem mx_headD (l : List DVal) : mx (l.headD .any) ≤ mxL l := by
  cases l with
  | nil => simp [mx, mxL]
  | cons d l => simp only [List.headD_cons, mxL]; omega
theorem mx_getD (l : List DVal) (i : Nat) : mx (l.getD i .any) ≤ mxL l := by
  rw [List.getD_eq_getElem?_getD]
  cases h : l[i]? with
  | none => simp [mx]
  | some d => exact mxL_mem (List.mem_of_getElem? h)
theorem mxR_getD (l : List (List DVal)) (i : Nat) : mxL (l.getD i []) ≤ mxR l := by
  rw [List.getD_eq_getElem?_getD]
  cases h : l[i]? with
  | none => simp [mxL]
  | some d => exact mxR_mem (List.mem_of_getElem? h)

section
variable {P : Program} {own : List Ent} {e : Operand → DVal} {n : Nat}

theorem cellsAt_mx {p : DVal} {cs : List DVal} (hc : cellsAt own p = some cs) : mxL cs ≤ max (mx p) (mxE own) := by
  unfold cellsAt at hc
  split at hc
  · simp only [Option.some.injEq] at hc; subst hc; simp only [mx]; omega
  · split at hc
    · rename_i x hx
      split at hc
      · split at hc
        · rename_i cs0 hob
          simp only [Option.some.injEq] at hc; subst hc
          have h1 := (mem_mxE (findE_ent hx).1).2
          rw [hob] at h1
          simp only [mxO] at h1
          exact Nat.le_trans (mxL_drop _ _) (by omega)
        · simp at hc
      · simp at hc
    · simp at hc
  · split at hc
    · rename_i x hx
      split at hc
      · split at hc
        · rename_i es hob
          split at hc
          · rw [Option.map_eq_some_iff] at hc
            obtain ⟨c0, h0, rfl⟩ := hc
            have h1 := (mem_mxE (findE_ent hx).1).2
            rw [hob] at h1
            simp only [mxO] at h1
            have h2 := mxR_mem (List.mem_of_getElem? h0)
            exact Nat.le_trans (mxL_drop _ _) (by omega)
          · simp at hc
        · simp at hc
      · simp at hc
    · simp at hc
  · simp at hc

theorem fillD_mx {place : Nat → Option (Nat × Nat)} : ∀ (ps : List (Nat × DVal)) (z r : List DVal), fillD place z ps = some r → mxL z ≤ n → (∀ p ∈ ps, mx p.2 ≤ n) → mxL r ≤ n
  | [], z, r, h, hz, _ => by simp only [fillD, Option.some.injEq] at h; subst h; exact hz
  | (i, d) :: ps, z, r, h, hz, hp => by
    simp only [fillD] at h
    split at h
    · simp at h
    · split at h
      · refine fillD_mx ps _ r h ?_ fun p hm => hp p (List.mem_cons_of_mem _ hm)
        have h2 := hp (i, d) List.mem_cons_self
        refine Nat.le_trans (splice_mx z _ (cellsD d)) ?_
        rw [mx_cellsD]
        simp only at h2
        omega
      · simp at h

theorem tZero_mx {t : TypeId} {z : List DVal} (h : tZero P t = some z) : mxL z = 0 := by
  have h1 : ∀ v, mx (ofV1 v) = 0 := by
    intro v
    unfold ofV1
    split <;> (try split) <;> simp [mx]
  obtain ⟨zv, _, rfl⟩ := tZero_ok (w := default) h
  have : mxL (zv.cells.toList.map ofV1) ≤ 0 := mxL_le fun d hd => by
    obtain ⟨v, _, rfl⟩ := List.mem_map.1 hd
    rw [h1]; omega
  omega

theorem dbin_mx {op : BinOp} {t : TypeId} {x y d : DVal} (h : dbin P op t x y = some d) : mx d = 0 := by
  unfold dbin at h
  repeat' split at h
  all_goals first
    | (simp only [Option.some.injEq] at h; subst h; rfl)
    | simp at h

theorem bVal_mx {bi : Builtin} {ds : List DVal} : mx (bVal own bi ds) = 0 := by
  unfold bVal
  repeat' split
  all_goals rfl

theorem mx_idxVal {d : DVal} {i : Int} (hn : mxE own ≤ n) (hd : mx d ≤ n) : mx (idxVal own d i) ≤ n := by
  unfold idxVal
  split
  · rename_i k bs es
    simp only [mx] at hd ⊢
    exact Nat.le_trans (mxR_getD _ _) hd
  · split
    · simpa [mx] using hd
    · simp [mx]
  · simpa [mx] using hd
  · simp [mx]

theorem mx_pickV {t : Bool} {x y : DVal} (hx : mx x ≤ n) (hy : mx y ≤ n) : mx (pickV t x y) ≤ n := by
  unfold pickV
  split <;> first
    | (simp [mx]; done)
    | (split <;> assumption)


theorem mapOf_mx {p : DVal} {ks vs : List DVal} (hc : mapOf own p = some (ks, vs)) : mxL vs ≤ max (mx p) (mxE own) := by
  unfold mapOf at hc
  split at hc
  · simp only [Option.some.injEq, Prod.mk.injEq] at hc
    obtain ⟨rfl, rfl⟩ := hc
    simp only [mx]; omega
  · simp only [Option.some.injEq, Prod.mk.injEq] at hc
    obtain ⟨rfl, rfl⟩ := hc
    simp [mxL]
  · split at hc
    · rename_i e he
      split at hc
      · split at hc
        · rename_i hob
          simp only [Option.some.injEq, Prod.mk.injEq] at hc
          obtain ⟨rfl, rfl⟩ := hc
          have := (mem_mxE (findE_ent he).1).2
          rw [hob] at this
          simp only [mxO] at this
          omega
        · simp at hc
      · simp at hc
    · simp at hc
  · simp at hc

theorem mx_ofV (v : Value) : mx (ofV v) = 0 := by
  have h1 : ∀ v, mx (ofV1 v) = 0 := by
    intro v
    unfold ofV1
    split <;> (try split) <;> simp [mx]
  unfold ofV
  split
  · rename_i cs
    simp only [mx]
    generalize cs.toList = l
    induction l with
    | nil => simp [mxL]
    | cons v l ih => simp [mxL, h1, ih]
  · exact h1 _

theorem tZeroD_mx {t : TypeId} {z : DVal} (h : tZeroD P t = some z) : mx z = 0 := by
  unfold tZeroD at h
  split at h
  · rw [Option.map_eq_some_iff] at h
    obtain ⟨v, _, rfl⟩ := h
    exact mx_ofV v
  · simp at h

theorem n_mx (hn : mxE own ≤ n) (op : Op) (h : ∀ x ∈ op.operands, mx (e x) ≤ n) : mx (nVal P own e op) ≤ n := by
  have any0 : mx DVal.any ≤ n := by simp [mx]
  have parts : ∀ (ps : Array (Nat × Operand)), (∀ x ∈ (ps.toList.map (·.2)).toArray, mx (e x) ≤ n) → ∀ p ∈ ps.toList, mx (e p.2) ≤ n := by
    intro ps h p hp
    exact h p.2 (by simpa using ⟨p.1, by simpa using hp⟩)
  cases op <;> simp only [Op.operands] at h <;> simp only [nVal] <;> try exact any0
  case move x => exact h x (by simp)
  case assign x => exact h x (by simp)
  case nilCheck x => exact h x (by simp)
  case pick c x y =>
    split
    · exact mx_pickV (h x (by simp)) (h y (by simp))
    · exact any0
  case fieldAddr t x f =>
    have := h x (by simp)
    split
    · rename_i hx; rw [hx] at this; simp only [mx] at this ⊢; exact Nat.le_trans (mxL_drop _ _) this
    · rename_i hx; rw [hx] at this; simpa [mx] using this
    · rename_i hx; rw [hx] at this; simpa [mx] using this
    · exact any0
  case load t x =>
    have := h x (by simp)
    split
    · rename_i h3; have := cellsAt_mx h3; simp only [mx]; exact Nat.le_trans (mxL_take _ _) (by omega)
    · rename_i h3; have := cellsAt_mx h3; exact Nat.le_trans (mx_headD _) (by omega)
    · exact any0
  case indexAddr t x i =>
    split
    · exact mx_idxVal hn (h x (by simp))
    · exact any0
  case index t x i =>
    split
    · simp [mx]
    · exact any0
  case field t x f =>
    have := h x (by simp)
    split
    · rename_i hx
      rw [hx] at this
      simp only [mx] at this
      split
      · simp only [mx]; exact Nat.le_trans (mxL_take _ _) (Nat.le_trans (mxL_drop _ _) this)
      · exact Nat.le_trans (mx_headD _) (Nat.le_trans (mxL_drop _ _) this)
    · exact any0
  case binOp op t x y yt =>
    cases hd : dbin P op t (e x) (e y) with
    | none => exact any0
    | some d => simp [dbin_mx hd]
  case unOp op t x =>
    split
    · simp [mx]
    · simp [mx]
    · exact any0
  case convert src dst x =>
    have := h x (by simp)
    split
    · split
      · simp [mx]
      · exact any0
    · exact this
  case extract x i =>
    have := h x (by simp)
    split
    · rename_i hx; rw [hx] at this; simp only [mx] at this; exact Nat.le_trans (mx_getD _ _) this
    · exact any0
  case makeFunc f us cs =>
    simp only [mx]
    have h1 : mxL (us.toList.map e) ≤ n := mxL_le fun d hd => by
      obtain ⟨x, hx, rfl⟩ := List.mem_map.1 hd
      exact h x (by simp; left; simpa using hx)
    have h2 : mxL (cs.toList.map e) ≤ n := mxL_le fun d hd => by
      obtain ⟨x, hx, rfl⟩ := List.mem_map.1 hd
      exact h x (by simp; right; simpa using hx)
    omega
  case makeInterface t x => simp only [mx]; exact h x (by simp)
  case slice t x l h' m =>
    have := h x (by simp)
    split
    · rename_i hx; rw [hx] at this; simp only [mx] at this ⊢; exact Nat.le_trans (mxR_take _ _) (Nat.le_trans (mxR_drop _ _) this)
    · simp [mx]
    · rename_i hx
      rw [hx] at this
      split
      · simpa [mx] using this
      · exact any0
    · rename_i hx; rw [hx] at this; simpa [mx] using this
    · simp [mx]
    · exact any0
  case lookup t x i ok =>
    have hx := h x (by simp)
    split
    · rename_i kt et ks vs ht hc
      have hvs := mapOf_mx hc
      have key : mx (match lookI ks (e i) with | some j => vs.getD j .any | none => (tZeroD P et).getD .any) ≤ n := by
        split
        · exact Nat.le_trans (mx_getD _ _) (by omega)
        · cases hz : tZeroD P et with
          | none => exact any0
          | some z => simp [tZeroD_mx hz]
      cases ok
      · exact key
      · exact Nat.max_le.2 ⟨key, by simp [mx, mxL]⟩
    · exact any0
  case box t x => simp only [mx, mx_cellsD]; exact h x (by simp)
  case build t ps =>
    have hp := parts ps h
    split
    · rename_i z hz
      simp only [mx]
      cases hf : fillD (tPlace P t) z (ps.toList.map fun p => (p.1, e p.2)) with
      | none => simp [mxL]
      | some r =>
        refine fillD_mx _ z r hf (by rw [tZero_mx hz]; omega) ?_
        intro p hm
        obtain ⟨q, hq, rfl⟩ := List.mem_map.1 hm
        exact hp q hq
    · exact any0
  case buildSlice t len ps =>
    have hp := parts ps h
    split
    · simp only [mx]
      refine mxR_le fun cs hm => ?_
      obtain ⟨q, hq, rfl⟩ := List.mem_map.1 hm
      rw [mx_cellsD]; exact hp q hq
    · exact any0
  case call c =>
    split
    · rw [bVal_mx]; omega
    · exact any0

theorem mx_strip {l : List (Nat × DVal)} : ∀ xs : List Operand, okL true (ev l) xs → ∀ x ∈ xs, mx (stripE l x) ≤ mx (ev l x)
  | [], _, x, hx => by cases hx
  | y :: ys, h, x, hx => by
    simp only [okL] at h
    rcases List.mem_cons.1 hx with rfl | hx
    · unfold stripE
      cases hq : ev l x <;> simp only [strip] <;> try exact Nat.le_refl _
      rw [hq] at h
      simp only [okG] at h
      simp [mx, h.1 trivial]
    · exact mx_strip ys h.2 x hx
theorem mx_stripE {l : List (Nat × DVal)} {x : Operand} (h : okG true (ev l x)) : mx (stripE l x) ≤ mx (ev l x) := by
  unfold stripE
  cases hq : ev l x <;> simp only [strip] <;> try exact Nat.le_refl _
  rw [hq] at h
  simp only [okG] at h
  simp [mx, h trivial]

theorem mx_pickV_le (t : Bool) (x y : DVal) : mx (pickV t x y) ≤ mx (if t then x else y) := by
  unfold pickV
  split <;> first
    | (simp [mx]; done)
    | exact Nat.le_refl _

theorem okOp_mx {l : List (Nat × DVal)} {op : Op} (hok : okOp true (ev l) op) (hp : nPre P own (stripE l) op) (hn : mxE own ≤ n) (h : ∀ x ∈ op.operands, mx (ev l x) ≤ n) : mx (nVal P own (stripE l) op) ≤ n := by
  by_cases hpk : ∃ x a b, op = .pick x a b
  · obtain ⟨x, a, b, rfl⟩ := hpk
    simp only [okOp] at hok
    obtain ⟨h1, h2⟩ := hok
    simp only [nPre] at hp
    cases hx : stripE l x <;> rw [hx] at hp <;> try exact hp.elim
    rename_i t
    have h2 := h2 t hx
    simp only [nVal, hx]
    refine Nat.le_trans (mx_pickV_le _ _ _) ?_
    cases t
    · exact Nat.le_trans (mx_stripE (h2.2 rfl)) (h b (by simp [Op.operands]))
    · exact Nat.le_trans (mx_stripE (h2.1 rfl)) (h a (by simp [Op.operands]))
  · have hok' : okL true (ev l) op.operands.toList := by
      unfold okOp at hok
      split at hok
      · exact absurd ⟨_, _, _, rfl⟩ hpk
      · exact hok
    exact n_mx hn op fun x hx => Nat.le_trans (mx_strip _ hok' x (by simpa using hx)) (h x hx)
end
end Go.Dm
