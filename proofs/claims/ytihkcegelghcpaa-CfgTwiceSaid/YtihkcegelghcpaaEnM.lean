/- The data machine, second make, part M: the rule for regions that draw their order and change own objects. -/
import Derived.Test.YtihkcegelghcpaaEnL
set_option linter.unusedSimpArgs false
set_option linter.unusedVariables false
namespace Go.Dm

structure EffSpec (ow l1 l2 : List Nat) (ops : Array Oper) : Prop where
  two : ∀ (k i : Nat) (o o' : Oper), ops[k]? = some o → ops[i]? = some o' → isEff ow o = true → k = i ∨ (k < i ∧ ((masks ops.toList []).getD i 0).testBit k = true) ∨ (i < k ∧ ((masks ops.toList []).getD k 0).testBit i = true) ∨
    (isEff ow o' = false ∧ ((l2.contains i = true ∨ (l1.contains i = true ∧ isApp o = true)) ∨ ((l1.contains i = false ∧ isIx o' = true) ∧ isSto o = true)))

theorem drawOKE_spec {ow l1 l2 : List Nat} {ops : Array Oper} (h : drawOKE ow l1 l2 ops = true) : EffSpec ow l1 l2 ops := by
  unfold drawOKE at h
  simp only [Bool.and_eq_true, List.all_eq_true] at h
  obtain ⟨_, h⟩ := h
  have mem : ∀ (k : Nat) (o : Oper), ops[k]? = some o → (o, k) ∈ ops.toList.zipIdx := by
    intro k o hk
    rw [List.mem_zipIdx_iff_getElem?]
    simpa using hk
  refine ⟨fun k i o o' hk hi he => ?_⟩
  have h1 := h (o, k) (mem k o hk)
  simp only [Bool.or_eq_true, he, Bool.not_true, Bool.false_eq_true, false_or, List.all_eq_true] at h1
  have h2 := h1 (o', i) (mem i o' hi)
  simp only [Bool.or_eq_true, Bool.and_eq_true, beq_iff_eq, decide_eq_true_eq, Bool.not_eq_true'] at h2
  rcases h2 with ((h2 | h2) | h2) | h2
  · exact .inl h2
  · exact .inr (.inl h2)
  · exact .inr (.inr (.inl h2))
  · exact .inr (.inr (.inr h2))

theorem eRes_own {P : Program} {o : Oper} {l : Operand → DVal} {own : List Ent} {r : Nat} {x : ERes} (h : eRes P o l own r = some x) :
    ∃ id r' obj, x.own = upE own id r' obj ∧ (isApp o = true → (∃ et k bs es, obj = .row et k bs es) ∧ (o.dst = some id ∨ ∃ e, findE own id = some e ∧ isBoxE e = false)) := by
  obtain ⟨dst, op, type, pos, after, guard⟩ := o
  unfold eRes at h
  simp only at h
  cases op <;> simp only [reduceCtorEq] at h
  case box t y =>
    split at h
    · simp only [Option.some.injEq] at h
      subst h
      exact ⟨_, _, _, rfl, by simp [isApp]⟩
    · simp at h
  case buildSlice t len ps =>
    split at h
    · simp only [Option.some.injEq] at h
      subst h
      exact ⟨_, _, _, rfl, by simp [isApp]⟩
    · simp at h
  case alloc t =>
    split at h
    · simp only [Option.some.injEq] at h
      subst h
      exact ⟨_, _, _, rfl, by simp [isApp]⟩
    · simp at h
  case store t ad y =>
    split at h
    · split at h
      · split at h
        · simp only [Option.some.injEq] at h
          subst h
          exact ⟨_, _, _, rfl, by simp [isApp]⟩
        · simp at h
      · simp at h
    · unfold eStoreRow at h
      split at h
      · split at h
        · split at h
          · simp only [Option.some.injEq] at h
            subst h
            exact ⟨_, _, _, rfl, by simp [isApp]⟩
          · simp at h
        · simp at h
      · simp at h
    · simp at h
  case makeSlice t lo co =>
    unfold eMake at h
    split at h
    · simp only [Option.some.injEq] at h
      subst h
      exact ⟨_, _, _, rfl, by simp [isApp]⟩
    · simp at h
  case makeMap t rv =>
    split at h
    · simp only [Option.some.injEq] at h
      subst h
      exact ⟨_, _, _, rfl, by simp [isApp]⟩
    · simp at h
  case mapUpdate t m k x =>
    split at h
    · split at h
      · split at h
        · simp only [Option.some.injEq] at h
          subst h
          exact ⟨_, _, _, rfl, by simp [isApp]⟩
        · simp at h
      · simp at h
    · simp at h
  case call c =>
    obtain ⟨cal, args, ats⟩ := c
    cases cal <;> simp only [reduceCtorEq] at h
    rename_i b
    cases b <;> simp only [reduceCtorEq] at h
    case append =>
      unfold eAppend at h
      split at h
      · split at h
        · rename_i i k bs et _ _
          split at h
          · rename_i id es k2 es2 hdest hsrc
            simp only [Option.some.injEq] at h
            subst h
            refine ⟨_, _, _, rfl, fun _ => ⟨⟨_, _, _, _, rfl⟩, ?_⟩⟩
            unfold destOf at hdest
            split at hdest
            · simp only [Option.some.injEq, Prod.mk.injEq] at hdest
              obtain ⟨rfl, _⟩ := hdest
              exact .inl rfl
            · split at hdest
              · rename_i e0 he0
                split at hdest
                · split at hdest
                  · rename_i hob
                    split at hdest
                    · simp only [Option.some.injEq, Prod.mk.injEq] at hdest
                      obtain ⟨rfl, _⟩ := hdest
                      exact .inr ⟨e0, he0, by unfold isBoxE; rw [hob]⟩
                    · simp at hdest
                  · simp at hdest
                · simp at hdest
              · simp at hdest
            · simp at hdest
          · simp at h
        · simp at h
      · simp at h
    case clear =>
      unfold eClear at h
      split at h
      · split at h
        · split at h
          · split at h
            · split at h
              · simp only [Option.some.injEq] at h
                subst h
                exact ⟨_, _, _, rfl, by simp [isApp]⟩
              · simp at h
            · simp at h
          · split at h
            · split at h
              · simp only [Option.some.injEq] at h
                subst h
                exact ⟨_, _, _, rfl, by simp [isApp]⟩
              · simp at h
            · simp at h
          · simp at h
        · simp at h
      · simp at h

theorem nodup_upE {own : List Ent} {id r : Nat} {obj : DObj} (h : (own.map (·.id)).Nodup) : ((upE own id r obj).map (·.id)).Nodup := by
  simp only [upE, List.map_cons, List.nodup_cons]
  refine ⟨fun hm => ?_, nodup_delE h⟩
  obtain ⟨e, he, h1⟩ := List.mem_map.1 hm
  exact (mem_delE.1 he).2 h1

theorem EOut_nd {P : Program} {o : Oper} {l : Operand → DVal} {own : List Ent} {r : Nat} {d : DVal} {own' : List Ent} (h : EOut P o l own r d own') (nd : (own.map (·.id)).Nodup) : (own'.map (·.id)).Nodup := by
  rcases h with ⟨x, hx, _, _, rfl⟩ | ⟨c, g, args, _, _, hS⟩ | ⟨c, id, r', args, e0, l0, e, A, A', b, _, _, _, _, _, _, _, _, _, _, rfl⟩
  · obtain ⟨id, r', obj, h6, _⟩ := eRes_own hx
    rw [h6]
    exact nodup_upE nd
  · exact hS.2.1
  · exact nodup_upE nd
theorem EOut_mx {P : Program} {o : Oper} {l : Operand → DVal} {own : List Ent} {r n : Nat} {d : DVal} {own' : List Ent} (h : EOut P o l own r d own') (ho : mxE own ≤ n) (hl : ∀ y ∈ o.op.operands, mx (l y) ≤ n) (hr : n ≤ r) : mx d ≤ r + 1 ∧ mxE own' ≤ r + 1 := by
  rcases h with ⟨x, hx, hp, rfl, rfl⟩ | ⟨c, g, args, _, _, hS⟩ | ⟨c, id, r', args, e0, l0, e, A, A', b, _, _, _, _, _, _, _, _, _, rfl, rfl⟩
  · exact eRes_mx hx hp ho hl hr
  · exact hS.2.2.1 (by omega)
  · refine ⟨by simp [mx], Nat.le_trans (mxE_upE _ _ _ _) ?_⟩
    simp only [mxO]
    omega

/-- an append leaves the boxes -/
theorem box_app0 {P : Program} {o : Oper} {l : Operand → DVal} {own : List Ent} {r : Nat} {x : ERes} (h : eRes P o l own r = some x) (ha : isApp o = true) (hok : appOK own o = true) (nd : (own.map (·.id)).Nodup) {e : Ent} (hb : isBoxE e = true) :
    e ∈ own ↔ e ∈ x.own := by
  obtain ⟨id, r', obj, hx, h1⟩ := eRes_own h
  obtain ⟨⟨et, k, bs, es, rfl⟩, h2⟩ := h1 ha
  rw [hx]
  unfold upE
  rw [List.mem_cons, mem_delE]
  constructor
  · intro he
    refine .inr ⟨he, fun hid => ?_⟩
    have hf := findE_of_mem nd he
    rw [hid] at hf
    rcases h2 with h2 | ⟨e', h2, h3⟩
    · unfold appOK at hok
      rw [ha, h2] at hok
      simp only [hf, hb] at hok
      simp at hok
    · rw [hf] at h2
      simp only [Option.some.injEq] at h2
      subst h2
      rw [hb] at h3; simp at h3
  · rintro (rfl | ⟨he, _⟩)
    · simp [isBoxE] at hb
    · exact he
theorem box_app {P : Program} {o : Oper} {l : Operand → DVal} {own : List Ent} {r : Nat} {d : DVal} {own' : List Ent} (h : EOut P o l own r d own') (ha : isApp o = true) (hok : appOK own o = true) (nd : (own.map (·.id)).Nodup) {e : Ent} (hb : isBoxE e = true) :
    e ∈ own ↔ e ∈ own' := by
  rcases h with ⟨x, hx, _, _, rfl⟩ | ⟨c, g, args, hop, hc, hS⟩ | ⟨c, id, r', args, e0, l0, e1, A, A', b, hop, hc, _⟩
  · exact box_app0 hx ha hok nd hb
  · unfold isApp at ha
    rw [hop] at ha
    unfold callee at hc
    split at hc
    · rename_i f hf
      simp only [hf] at ha
      simp at ha
    · simp at hc
  · unfold isApp at ha
    rw [hop] at ha
    unfold pkOf at hc
    split at hc
    · rename_i f hf
      simp only [hf] at ha
      simp at ha
    · simp at hc

theorem strip_mx {d : DVal} (h : ∀ c d', d = .sel c d' → c = true) : mx (strip d) = mx d := by
  cases d <;> try rfl
  rename_i c d'
  have := h c d' rfl
  subst this
  simp [strip, mx]
theorem okL_sel {e : Operand → DVal} : ∀ {l : List Operand}, okL true e l → ∀ x ∈ l, ∀ c d', e x = .sel c d' → c = true
  | [], _, x, hx, _, _, _ => by cases hx
  | y :: l, h, x, hx, c, d', he => by
    simp only [okL] at h
    rcases List.mem_cons.1 hx with rfl | hx
    · have h1 := h.1
      rw [he] at h1
      exact h1 rfl
    · exact okL_sel h.2 x hx c d' he
/-- an operation with an effect is no pick -/
theorem eff_op {ow : List Nat} {o : Oper} {c : Bool} {e : Operand → DVal} (he : isEff ow o = true) (h : okOp c e o.op) : okL c e o.op.operands.toList := by
  unfold okOp at h
  split at h
  · rename_i hop; unfold isEff at he; rw [hop] at he; simp at he
  · exact h

theorem Rel.selTrue {B : Base} {l : List (Nat × DVal)} {own : List Ent} {a : Act} {w : World} {loc : Nat → Loc} {dst : Option Nat} {d : DVal} (R : Rel B ⟨putS l dst d, own⟩ a w loc) : Rel B ⟨putS l dst (.sel true d), own⟩ a w loc where
  st := R.st
  upd := R.upd
  new := R.new
  ver := R.ver
  sl := by
    intro i
    have h := R.sl i
    cases dst with
    | none => exact h
    | some j =>
      simp only [putS, getS] at h ⊢
      split
      · rename_i hj
        rw [if_pos hj] at h
        simp only [rd]
        exact ⟨fun _ => h, fun h' => by simp at h'⟩
      · rename_i hj
        rw [if_neg hj] at h
        exact h
  nt := R.nt
  df := R.df
theorem EffOK_nd {P : Program} {ops : Array Oper} {o : Oper} {s : DS} {d : DVal} {own' : List Ent} {r : Nat} (h : EffOK P ops o s d own' r) (nd : (s.own.map (·.id)).Nodup) : (own'.map (·.id)).Nodup := by
  unfold EffOK at h
  split at h
  · exact EOut_nd h nd
  · obtain ⟨_, _, ⟨_, d0, _, h⟩ | ⟨_, _, rfl⟩⟩ := h
    · exact EOut_nd h nd
    · exact nd
theorem EffOK_box {P : Program} {ops : Array Oper} {o : Oper} {s : DS} {d : DVal} {own' : List Ent} {r : Nat} (h : EffOK P ops o s d own' r) (ha : isApp o = true) (hok : appOK s.own o = true) (nd : (s.own.map (·.id)).Nodup) {e : Ent} (hb : isBoxE e = true) : e ∈ s.own ↔ e ∈ own' := by
  unfold EffOK at h
  split at h
  · exact box_app h ha hok nd hb
  · obtain ⟨_, _, ⟨_, d0, _, h⟩ | ⟨_, _, rfl⟩⟩ := h
    · exact box_app h ha hok nd hb
    · exact Iff.rfl
theorem gSlot_look {ops : Array Oper} {s s' : DS} {j : Nat} (h : ∀ t, (ops[j]?).bind (·.dst) = some t → getS s.slots t = getS s'.slots t) : gSlot ops s j = gSlot ops s' j := by
  unfold gSlot
  cases ht : (ops[j]?).bind (·.dst) with
  | none => rfl
  | some t => exact h t ht
theorem EffOK_congr {P : Program} {ops : Array Oper} {o : Oper} {s s' : DS} {d : DVal} {own' : List Ent} {r : Nat} (hown : s.own = s'.own) (hev : ∀ x ∈ o.op.operands, ev s.slots x = ev s'.slots x) (hg : ∀ j want, o.guard = some (j, want) → gSlot ops s j = gSlot ops s' j) (h : EffOK P ops o s d own' r) : EffOK P ops o s' d own' r := by
  unfold EffOK at h ⊢
  cases hgd : o.guard with
  | none =>
    rw [hgd] at h
    simp only at h ⊢
    rw [← hown]
    exact EOut_congr hev h
  | some jw =>
    obtain ⟨j, want⟩ := jw
    rw [hgd] at h
    simp only at h ⊢
    rw [hg j want hgd] at h
    obtain ⟨h1, h2, h3⟩ := h
    refine ⟨h1, okOp_congr hev h2, ?_⟩
    rcases h3 with ⟨h3, d0, h4, h5⟩ | ⟨h3, h4, h5⟩
    · exact .inl ⟨h3, d0, h4, by rw [← hown]; exact EOut_congr (fun x hx => by unfold stripE; rw [hev x hx]) h5⟩
    · exact .inr ⟨h3, h4, by rw [h5, hown]⟩
theorem EffOK_mx {P : Program} {ow : List Nat} {ops : Array Oper} {o : Oper} {s : DS} {d : DVal} {own' : List Ent} {r n : Nat} (he : isEff ow o = true) (h : EffOK P ops o s d own' r) (ho : mxE s.own ≤ n) (hl : mxS s.slots ≤ n) (hr : n ≤ r) : mx d ≤ r + 1 ∧ mxE own' ≤ r + 1 := by
  unfold EffOK at h
  split at h
  · exact EOut_mx h ho (fun y _ => Nat.le_trans (ev_mx _ y) hl) hr
  · obtain ⟨_, h2, ⟨h3, d0, rfl, h⟩ | ⟨_, rfl, rfl⟩⟩ := h
    · rw [h3] at h2
      have := EOut_mx h ho (fun y hy => by
        unfold stripE
        rw [strip_mx (okL_sel (eff_op he h2) y (by simpa using hy))]
        exact Nat.le_trans (ev_mx _ y) hl) hr
      refine ⟨?_, this.2⟩
      simp only [mx]; simpa using this.1
    · exact ⟨by simp [mx], by omega⟩

theorem OpOK1.ext {P : Program} {o : Oper} {own own' : List Ent} {e e' : Operand → DVal} {d : DVal} (h : OpOK1 P o own e d) (hx : ExtE own own') (he : ∀ x ∈ o.op.operands, e x = e' x) : OpOK1 P o own' e' d := by
  rcases h with ⟨c, g, args, hop, hcal, hp⟩ | ⟨hp, hdv⟩
  · refine .inl ⟨c, g, args, hop, ?_, hp⟩
    rw [← callee_congr (fun x hx => he x (by rw [hop]; exact hx))]
    exact hcal
  · obtain ⟨c1, c2⟩ := n_congr0 (P := P) (own := own) o.op he
    obtain ⟨h1, h2⟩ := n_ext hx o.op (c1.1 hp)
    exact .inr ⟨h1, by rw [h2, ← c2]; exact hdv⟩

theorem OpOK1.mx {P : Program} {o : Oper} {own : List Ent} {e : Operand → DVal} {d : DVal} {n : Nat} (h : OpOK1 P o own e d) (hn : mxE own ≤ n) (he : ∀ x ∈ o.op.operands, mx (e x) ≤ n) : mx d ≤ n := by
  rcases h with ⟨c, g, args, hop, hcal, hp⟩ | ⟨hp, rfl⟩
  · rw [hp.2.1]; omega
  · exact n_mx hn o.op he

theorem findE_upE_self {own : List Ent} {id r : Nat} {obj : DObj} : findE (upE own id r obj) id = some ⟨id, r, obj⟩ := by simp [upE, findE]
theorem findE_upE_ne {own : List Ent} {id r j : Nat} {obj : DObj} (h : j ≠ id) : findE (upE own id r obj) j = findE own j := by
  have hdel : ∀ own : List Ent, findE (delE own id) j = findE own j := by
    intro own
    induction own with
    | nil => rfl
    | cons e t ih =>
      simp only [delE]
      split
      · rename_i he
        rw [ih]
        simp only [findE]
        rw [if_neg (by omega)]
      · simp only [findE]
        rw [ih]
  unfold upE
  simp only [findE]
  rw [if_neg (by omega), hdel]
/-- the rows' lengths stand -/
def LenE (own own' : List Ent) : Prop := ∀ id e et k bs es, findE own id = some e → e.obj = .row et k bs es → ∃ e' et' es', findE own' id = some e' ∧ e'.r = e.r ∧ e'.obj = .row et' k bs es' ∧ es'.length = es.length
theorem LenE.refl (own : List Ent) : LenE own own := fun _ e et _ _ es h1 h2 => ⟨e, et, es, h1, rfl, h2, rfl⟩
theorem LenE.trans {a b c : List Ent} (h1 : LenE a b) (h2 : LenE b c) : LenE a c := by
  intro id e et k bs es g1 g2
  obtain ⟨e', et', es', k1, k2, k3, k4⟩ := h1 id e et k bs es g1 g2
  obtain ⟨e'', et'', es'', l1, l2, l3, l4⟩ := h2 id e' et' k bs es' k1 k3
  exact ⟨e'', et'', es'', l1, l2.trans k2, l3, l4.trans k4⟩
theorem LenE.upE {own : List Ent} {id r : Nat} {obj : DObj} {e0 : Ent} (h0 : findE own id = some e0) (hr : e0.r = r)
    (h : (∃ et et' k bs es es', e0.obj = .row et k bs es ∧ obj = .row et' k bs es' ∧ es'.length = es.length) ∨ (∃ c c', e0.obj = .box c ∧ obj = .box c')) : LenE own (upE own id r obj) ∧ LenE (upE own id r obj) own := by
  constructor
  · intro j e et k bs es h1 h2
    by_cases hj : j = id
    · subst hj
      rw [h0] at h1
      simp only [Option.some.injEq] at h1
      subst h1
      rcases h with ⟨et1, et', k1, bs1, es1, es', g1, g2, g3⟩ | ⟨c, c', g1, g2⟩
      · rw [h2] at g1
        simp only [DObj.row.injEq] at g1
        obtain ⟨rfl, rfl, rfl, rfl⟩ := g1
        exact ⟨_, et', es', findE_upE_self, hr.symm, g2, g3⟩
      · rw [h2] at g1; simp at g1
    · exact ⟨e, et, es, by rw [findE_upE_ne hj]; exact h1, rfl, h2, rfl⟩
  · intro j e et k bs es h1 h2
    by_cases hj : j = id
    · subst hj
      rw [findE_upE_self] at h1
      simp only [Option.some.injEq] at h1
      subst h1
      simp only at h2
      subst h2
      rcases h with ⟨et1, et', k1, bs1, es1, es', g1, g2, g3⟩ | ⟨c, c', g1, g2⟩
      · simp only [DObj.row.injEq] at g2
        obtain ⟨rfl, rfl, rfl, rfl⟩ := g2
        exact ⟨e0, et1, es1, h0, hr, g1, g3.symm⟩
      · simp at g2
    · exact ⟨e, et, es, by rw [findE_upE_ne hj] at h1; exact h1, rfl, h2, rfl⟩

theorem len_sto0 {P : Program} {o : Oper} {l : Operand → DVal} {own : List Ent} {r : Nat} {x : ERes} (h : eRes P o l own r = some x) (hp : x.pre) (ha : isSto o = true) : LenE own x.own ∧ LenE x.own own := by
  obtain ⟨dst, op, type, pos, after, guard⟩ := o
  unfold isSto at ha
  unfold eRes at h
  simp only at h ha
  cases op <;> simp only [reduceCtorEq, Bool.false_eq_true] at h ha
  case store t a y =>
    split at h
    · split at h
      · rename_i e he
        split at h
        · rename_i cs hob
          simp only [Option.some.injEq] at h
          subst h
          exact LenE.upE he hp.1 (.inr ⟨_, _, hob, rfl⟩)
        · simp at h
      · simp at h
    · unfold eStoreRow at h
      split at h
      · rename_i e he
        split at h
        · rename_i et k' bs es hob
          split at h
          · simp only [Option.some.injEq] at h
            subst h
            exact LenE.upE he hp.1 (.inl ⟨_, _, _, _, _, _, hob, rfl, by simp⟩)
          · simp at h
        · simp at h
      · simp at h
    · simp at h
theorem len_sto {P : Program} {o : Oper} {l : Operand → DVal} {own : List Ent} {r : Nat} {d : DVal} {own' : List Ent} (h : EOut P o l own r d own') (ha : isSto o = true) : LenE own own' ∧ LenE own' own := by
  rcases h with ⟨x, hx, hp, _, rfl⟩ | ⟨c, g, args, hop, _⟩ | ⟨c, id, r', args, e0, l0, e1, A, A', b, hop, _⟩
  · exact len_sto0 hx hp ha
  · simp [isSto, hop] at ha
  · simp [isSto, hop] at ha
theorem EffOK_len {P : Program} {ops : Array Oper} {o : Oper} {s : DS} {d : DVal} {own' : List Ent} {r : Nat} (h : EffOK P ops o s d own' r) (ha : isSto o = true) : LenE s.own own' ∧ LenE own' s.own := by
  unfold EffOK at h
  split at h
  · exact len_sto h ha
  · obtain ⟨_, _, ⟨_, d0, _, h⟩ | ⟨_, _, rfl⟩⟩ := h
    · exact len_sto h ha
    · exact ⟨LenE.refl _, LenE.refl _⟩

theorem OpOK1.ext2 {P : Program} {o : Oper} {own own' : List Ent} {e e' : Operand → DVal} {d : DVal} (h : OpOK1 P o own e d) (hx : ExtE own own' ∨ (isIx o = true ∧ LenE own own')) (he : ∀ x ∈ o.op.operands, e x = e' x) : OpOK1 P o own' e' d := by
  rcases hx with hx | ⟨hi, hx⟩
  · exact h.ext hx he
  · obtain ⟨dst, op, type, pos, after, guard⟩ := o
    unfold isIx at hi
    simp only at hi he
    cases op <;> simp only [Bool.false_eq_true] at hi
    case indexAddr t x i =>
      rcases h with ⟨c, g, args, hop, _⟩ | ⟨hp, hd⟩
      · simp at hop
      · refine .inr ?_
        simp only [nPre, nVal] at hp hd ⊢
        rw [← he x (by simp [Op.operands]), ← he i (by simp [Op.operands])]
        split at hp
        · rename_i _ _ n kk bs0 k' bs' es hi' ht hr
          rw [hi'] at hd ⊢
          simp only at hd ⊢
          rw [ht]
          cases hxx : e x <;> rw [hxx] at hr hd <;> simp only [rowsOf, reduceCtorEq] at hr
          case sl =>
            simp only [Option.some.injEq, Prod.mk.injEq] at hr
            obtain ⟨rfl, rfl, rfl⟩ := hr
            exact ⟨by simpa [rowsOf] using hp, hd⟩
          case osl id r =>
            split at hr
            · rename_i e0 hf
              split at hr
              · rename_i hr0
                split at hr
                · rename_i et k1 bs1 es1 hob
                  simp only [Option.some.injEq, Prod.mk.injEq] at hr
                  obtain ⟨rfl, rfl, rfl⟩ := hr
                  obtain ⟨e1, et1, es1', g1, g2, g3, g4⟩ := hx id e0 _ _ _ _ hf hob
                  have hr1 : rowsOf own' (.osl id r) = some (k1, bs1, es1') := by simp [rowsOf, g1, g2, hr0, g3]
                  have hr2 : rowsOf own (.osl id r) = some (k1, bs1, es1) := by simp [rowsOf, hf, hr0, hob]
                  simp only [idxVal] at hd ⊢
                  rw [hr2] at hd
                  rw [hr1]
                  simp only at hd ⊢
                  exact ⟨by rw [g4]; exact hp, hd⟩
                · simp at hr
              · simp at hr
            · simp at hr
          case vw id r k2 bs2 i2 n2 =>
            split at hr
            · rename_i e0 hf
              split at hr
              · rename_i hr0
                split at hr
                · rename_i et k1 bs1 es1 hob
                  split at hr
                  · rename_i hq
                    simp only [Option.some.injEq, Prod.mk.injEq] at hr
                    obtain ⟨rfl, rfl, rfl⟩ := hr
                    obtain ⟨e1, et1, es1', g1, g2, g3, g4⟩ := hx id e0 _ _ _ _ hf hob
                    have hr1 : rowsOf own' (.vw id r k2 bs2 i2 n2) = some (k2, bs2, (es1'.drop i2).take n2) := by simp [rowsOf, g1, g2, hr0, g3, hq, g4]
                    rw [hr1]
                    simp only [idxVal] at hd ⊢
                    refine ⟨⟨hp.1, hp.2.1, ?_⟩, hd⟩
                    have := hp.2.2
                    simp only [List.length_take, List.length_drop] at this ⊢
                    omega
                  · simp at hr
                · simp at hr
              · simp at hr
            · simp at hr
        · exact hp.elim

section
variable {P : Program} {B : Base} {s : DS}

theorem DW_region_drawX (ow l1 l2 : List Nat) {id : Nat} {ops : Array Oper} {Q : Exit → DS → Prop} (hm : P.follows .mixedOrders = true) (hok : drawOKE ow l1 l2 ops = true) (h : dOpsX P B.nt ow l1 l2 ops ops.toList 0 ⟨Q .normal⟩ s) : DW P B (.region id ops true) Q s := by
  intro a w loc R
  refine wpIn_region_any hm ?_
  have hok' := hok
  unfold drawOKE at hok'
  simp only [Bool.and_eq_true] at hok'
  have spec := drawOK_spec hok'.1
  have spE := drawOKE_spec hok
  obtain ⟨ds, owns, hl, howns, hK, hall⟩ := dOpsX_run (lim B s) _ 0 0 _ h
  have hlen : ops.toList.length = ops.size := by simp
  rw [hlen] at hK
  have hl' : ds.length = ops.size := by simpa using hl
  have zat : ∀ (k : Nat) (z : Oper × DVal), (ops.toList.zip ds)[k]? = some z → ops[k]? = some z.1 ∧ ds[k]? = some z.2 := by
    intro k z hz
    rw [List.getElem?_zip_eq_some] at hz
    exact ⟨by simpa using hz.1, hz.2⟩
  have zat' : ∀ (k : Nat) (o : Oper) (d : DVal), ops[k]? = some o → ds[k]? = some d → (ops.toList.zip ds)[k]? = some (o, d) := by
    intro k o d ho hd
    rw [List.getElem?_zip_eq_some]
    exact ⟨by simpa using ho, hd⟩
  have uniq : ∀ (t k k' : Nat) (z z' : Oper × DVal), (ops.toList.zip ds)[k]? = some z → z.1.dst = some t → (ops.toList.zip ds)[k']? = some z' → z'.1.dst = some t → k' = k :=
    fun t k k' z z' h1 h2 h3 h4 => spec.one k' k z'.1 z.1 t (zat _ _ h3).1 (zat _ _ h1).1 h4 h2
  -- what the slots hold behind the operations of S, and behind the first j
  have agree : ∀ (S : Nat → Bool) (j : Nat) (t : Nat), (∀ (k : Nat) (o : Oper), ops[k]? = some o → o.dst = some t → (S k = true ↔ k < j)) →
      getS (setS s.slots S 0 (ops.toList.zip ds)) t = getS (lexS s.slots ((ops.toList.zip ds).take j)) t := by
    intro S j t hS
    by_cases hex : ∃ (k : Nat) (z : Oper × DVal), (ops.toList.zip ds)[k]? = some z ∧ z.1.dst = some t
    · obtain ⟨k, z, hz, hd⟩ := hex
      have hSk := hS k z.1 (zat _ _ hz).1 hd
      by_cases hkj : k < j
      · rw [getS_setS_some _ 0 k z hz hd (by rw [Nat.zero_add]; exact hSk.2 hkj) (fun k' z' h1 h2 => uniq t k k' z z' hz hd h1 h2)]
        rw [getS_lexS_some _ _ k z (by rw [List.getElem?_take_of_lt hkj]; exact hz) hd]
        intro k' z' h1 h2
        have : (ops.toList.zip ds)[k']? = some z' := by
          rw [List.getElem?_take] at h1
          split at h1
          · exact h1
          · simp at h1
        exact uniq t k k' z z' hz hd this h2
      · rw [getS_setS_none _ 0 (fun k' z' h1 h2 => by
          have := uniq t k k' z z' hz hd h1 h2
          subst this
          rw [Nat.zero_add]
          cases hq : S k' with
          | false => rfl
          | true => exact absurd (hSk.1 hq) hkj)]
        rw [getS_lexS_none]
        intro z' hz' h2
        obtain ⟨k', hk', rfl⟩ := List.getElem_of_mem hz'
        have hlt : k' < j := by simp at hk'; omega
        have hget : (ops.toList.zip ds)[k']? = some ((ops.toList.zip ds).take j)[k'] := by
          rw [List.getElem_take]; exact List.getElem?_eq_getElem _
        have := uniq t k k' z _ hz hd hget h2
        omega
    · rw [getS_setS_none _ 0 (fun k' z' h1 h2 => absurd ⟨k', z', h1, h2⟩ hex), getS_lexS_none]
      intro z' hz' h2
      obtain ⟨k', hk', hq⟩ := List.getElem_of_mem (List.mem_of_mem_take hz')
      exact hex ⟨k', z', by rw [List.getElem?_eq_getElem hk', hq], h2⟩
  -- own objects: no two with one number; what stands between two places
  have hnd : ∀ j, j ≤ ops.size → ((owns j).map (·.id)).Nodup := by
    intro j
    induction j with
    | zero => intro _; rw [howns]; exact R.st.nd
    | succ j ih =>
      intro hj
      have hlt : j < ops.size := by omega
      obtain ⟨d, _, hst⟩ := hall j ops[j] (by simp [hlt])
      rcases hst with ⟨_, _, _, hx⟩ | ⟨_, h5, _⟩
      · exact EffOK_nd (s := ⟨_, _⟩) hx (ih (by omega))
      · rw [h5]; exact ih (by omega)
  have still : ∀ m i, i + m ≤ ops.size → (∀ k o, i ≤ k → k < i + m → ops[k]? = some o → isEff ow o = false) → owns (i + m) = owns i := by
    intro m
    induction m with
    | zero => intro i _ _; rfl
    | succ m ih =>
      intro i hi hk
      have hlt : i + m < ops.size := by omega
      obtain ⟨d, _, hst⟩ := hall (i + m) ops[i + m] (by simp [hlt])
      have hne := hk (i + m) ops[i + m] (by omega) (by omega) (by simp [hlt])
      rcases hst with ⟨h1, _⟩ | ⟨_, h5, _⟩
      · rw [hne] at h1; simp at h1
      · rw [show i + (m + 1) = i + m + 1 by omega, h5]
        exact ih i (by omega) fun k o h1 h2 h3 => hk k o h1 (by omega) h3
  have same : ∀ i j, i ≤ ops.size → j ≤ ops.size → (∀ k o, ops[k]? = some o → isEff ow o = true → (k < j ↔ k < i)) → owns j = owns i := by
    intro i j hi hj hk
    by_cases hij : i ≤ j
    · have := still (j - i) i (by omega) (fun k o h1 h2 h3 => by
        cases hq : isEff ow o with
        | false => rfl
        | true => have := (hk k o h3 hq).1 (by omega); omega)
      rwa [show i + (j - i) = j by omega] at this
    · have := still (i - j) j (by omega) (fun k o h1 h2 h3 => by
        cases hq : isEff ow o with
        | false => rfl
        | true => have := (hk k o h3 hq).2 (by omega); omega)
      rw [show j + (i - j) = i by omega] at this
      exact this.symm
  have boxes : ∀ m i, i + m ≤ ops.size → (∀ k o, i ≤ k → k < i + m → ops[k]? = some o → isEff ow o = false ∨ isApp o = true) → ∀ e, isBoxE e = true → (e ∈ owns i ↔ e ∈ owns (i + m)) := by
    intro m
    induction m with
    | zero => intro i _ _ e _; exact Iff.rfl
    | succ m ih =>
      intro i hi hk e he
      have hlt : i + m < ops.size := by omega
      rw [ih i (by omega) (fun k o h1 h2 h3 => hk k o h1 (by omega) h3) e he]
      obtain ⟨d, _, hst⟩ := hall (i + m) ops[i + m] (by simp [hlt])
      have hne := hk (i + m) ops[i + m] (by omega) (by omega) (by simp [hlt])
      rcases hst with ⟨h1, _, h4, hx⟩ | ⟨_, h5, _⟩
      · rcases hne with h | h
        · rw [h] at h1; simp at h1
        · rw [show i + (m + 1) = i + m + 1 by omega]
          exact EffOK_box hx h h4 (hnd _ (by omega)) he
      · rw [show i + (m + 1) = i + m + 1 by omega, h5]
  have boxesE : ∀ i j, i ≤ ops.size → j ≤ ops.size → (∀ k o, ops[k]? = some o → isEff ow o = true → ¬ (k < j ↔ k < i) → isApp o = true) → ExtE ((owns i).filter isBoxE) (owns j) := by
    intro i j hi hj hk id e hf
    obtain ⟨h1, h2⟩ := findE_mem hf
    rw [List.mem_filter] at h1
    have hmem : e ∈ owns j := by
      by_cases hij : i ≤ j
      · have := (boxes (j - i) i (by omega) (fun k o h1 h2 h3 => by
          cases hq : isEff ow o with
          | false => exact .inl rfl
          | true => exact .inr (hk k o h3 hq (by omega))) e h1.2).1 h1.1
        rwa [show i + (j - i) = j by omega] at this
      · have := (boxes (i - j) j (by omega) (fun k o h1 h2 h3 => by
          cases hq : isEff ow o with
          | false => exact .inl rfl
          | true => exact .inr (hk k o h3 hq (by omega))) e h1.2).2
        rw [show j + (i - j) = i by omega] at this
        exact this h1.1
    rw [← h2]
    exact findE_of_mem (hnd j hj) hmem
  have lens : ∀ m i, i + m ≤ ops.size → (∀ k o, i ≤ k → k < i + m → ops[k]? = some o → isEff ow o = false ∨ isSto o = true) → LenE (owns i) (owns (i + m)) ∧ LenE (owns (i + m)) (owns i) := by
    intro m
    induction m with
    | zero => intro i _ _; exact ⟨LenE.refl _, LenE.refl _⟩
    | succ m ih =>
      intro i hi hk
      have hlt : i + m < ops.size := by omega
      obtain ⟨g1, g2⟩ := ih i (by omega) (fun k o h1 h2 h3 => hk k o h1 (by omega) h3)
      obtain ⟨d, _, hst⟩ := hall (i + m) ops[i + m] (by simp [hlt])
      have hne := hk (i + m) ops[i + m] (by omega) (by omega) (by simp [hlt])
      rw [show i + (m + 1) = i + m + 1 by omega]
      rcases hst with ⟨h1, _, _, hx⟩ | ⟨_, h5, _⟩
      · rcases hne with h | h
        · rw [h] at h1; simp at h1
        · obtain ⟨l1, l2⟩ := EffOK_len hx h
          exact ⟨g1.trans l1, l2.trans g2⟩
      · rw [h5]; exact ⟨g1, g2⟩
  have lensE : ∀ i j, i ≤ ops.size → j ≤ ops.size → (∀ k o, ops[k]? = some o → isEff ow o = true → ¬ (k < j ↔ k < i) → isSto o = true) → LenE (owns i) (owns j) := by
    intro i j hi hj hk
    by_cases hij : i ≤ j
    · have := (lens (j - i) i (by omega) (fun k o h1 h2 h3 => by
        cases hq : isEff ow o with
        | false => exact .inl rfl
        | true => exact .inr (hk k o h3 hq (by omega)))).1
      rwa [show i + (j - i) = j by omega] at this
    · have := (lens (i - j) j (by omega) (fun k o h1 h2 h3 => by
        cases hq : isEff ow o with
        | false => exact .inl rfl
        | true => exact .inr (hk k o h3 hq (by omega)))).2
      rwa [show j + (i - j) = i by omega] at this
  have effs_le : ∀ i j, i ≤ j → effs ow (ops.toList.take i) ≤ effs ow (ops.toList.take j) := by
    intro i j hij
    unfold effs
    have : (ops.toList.take i) = (ops.toList.take j).take i := by rw [List.take_take, Nat.min_eq_left hij]
    rw [this]
    exact (List.take_sublist _ _).countP_le
  have fin : ∀ (listed : Array Bool) (p : Nat) (a : Act) (w : World) (loc : Nat → Loc), listed.size = ops.size → Closed ops (fun k => listed.getD k false) → p ≤ ops.size → (∀ k o, ops[k]? = some o → isEff ow o = true → (listed.getD k false = true ↔ k < p)) → Rel B ⟨setS s.slots (fun k => listed.getD k false) 0 (ops.toList.zip ds), owns p⟩ a w loc →
      (∀ i, i < ops.size → listed.getD i false = true) → QQ B Q .normal a w := by
    intro listed p a w loc hsz hc hp hpe R hallS
    have heq : owns p = owns ops.size := same _ _ (Nat.le_refl _) hp fun k o h1 h2 => by
      have hlt : k < ops.size := (Array.getElem?_eq_some_iff.1 h1).1
      have := hpe k o h1 h2
      simp only [hallS k hlt, true_iff] at this
      omega
    rw [heq] at R
    refine ⟨_, loc, hK, Rel.congr (fun t => ?_) R⟩
    have := agree (fun k => listed.getD k false) (ops.toList.zip ds).length t (fun k o ho hd => by
      have hlt : k < ops.size := (Array.getElem?_eq_some_iff.1 ho).1
      simp only [hallS k hlt, true_iff, List.length_zip, Array.length_toList, hl', Nat.min_self]; exact hlt)
    rw [this, List.take_length]
  have nready : ∀ (listed : Array Bool), Region.ready .any ops listed = [] → listed.size = ops.size → ∀ i, i < ops.size → listed.getD i false = true := by
    intro listed hr hsz i
    induction i using Nat.strongRecOn with
    | _ i ih =>
      intro hi
      cases hq : listed.getD i false with
      | true => rfl
      | false =>
        exfalso
        have hget : ops[i]? = some ops[i] := Array.getElem?_eq_getElem hi
        have : i ∈ Region.ready .any ops listed := by
          rw [mem_ready]
          refine ⟨?_, ops[i], hget, fun e he hb => ?_⟩
          · have hi' : i < listed.size := by omega
            simp only [Array.getD_eq_getD_getElem?, Array.getElem?_eq_getElem hi', Option.getD_some] at hq ⊢
            exact hq
          · have := spec.acy i _ hget e he hb
            exact ih e.on this (by omega)
        rw [hr] at this
        simp at this
  have main : ∀ (fuel : Nat) (listed : Array Bool) (p : Nat) (a : Act) (w : World) (loc : Nat → Loc), listed.size = ops.size → Closed ops (fun k => listed.getD k false) → p ≤ ops.size → (∀ k o, ops[k]? = some o → isEff ow o = true → (listed.getD k false = true ↔ k < p)) →
      (∀ k d, ds[k]? = some d → listed.getD k false = true → mx d ≤ lim B s + effs ow (ops.toList.take p)) → mxE (owns p) ≤ lim B s + effs ow (ops.toList.take p) → (List.range ops.size).countP (fun k => listed.getD k false) + fuel = ops.size →
      Rel B ⟨setS s.slots (fun k => listed.getD k false) 0 (ops.toList.zip ds), owns p⟩ a w loc → wpAnyIn (wd B.ro) 0 P .any ops (QQ B Q) fuel listed a w := by
    intro fuel
    induction fuel with
    | zero =>
      intro listed p a w loc hsz hc hp hpe hbd hbo hcnt R
      have hallS : ∀ i, i < ops.size → listed.getD i false = true := by
        intro i hi
        have := (List.countP_eq_length (p := fun k => listed.getD k false) (l := List.range ops.size)).1 (by simpa using hcnt) i (List.mem_range.2 hi)
        simpa using this
      refine ⟨?_, fin listed p a w loc hsz hc hp hpe R hallS⟩
      rw [List.eq_nil_iff_forall_not_mem]
      intro i hi
      rw [mem_ready] at hi
      obtain ⟨h0, o, ho, _⟩ := hi
      have hlt : i < ops.size := (Array.getElem?_eq_some_iff.1 ho).1
      have h1 := hallS i hlt
      have hi' : i < listed.size := by omega
      simp only [Array.getD_eq_getD_getElem?, Array.getElem?_eq_getElem hi', Option.getD_some] at h0 h1
      rw [h0] at h1; simp at h1
    | succ fuel ih =>
      intro listed p a w loc hsz hc hp hpe hbd hbo hcnt R
      refine ⟨fun hr => fin listed p a w loc hsz hc hp hpe R (nready listed hr hsz), ?_⟩
      intro i hi
      rw [mem_ready] at hi
      obtain ⟨h0, o, ho, hpre⟩ := hi
      have hlt : i < ops.size := (Array.getElem?_eq_some_iff.1 ho).1
      have hi' : i < listed.size := by omega
      have hSi : listed.getD i false = false := by
        simp only [Array.getD_eq_getD_getElem?, Array.getElem?_eq_getElem hi', Option.getD_some] at h0 ⊢
        exact h0
      obtain ⟨d, hd, hst⟩ := hall i o (by simpa using ho)
      simp only [Nat.zero_add, Nat.add_zero] at hst
      -- what stands ahead is done; what waits is not
      have anc : ∀ k, ((masks ops.toList []).getD i 0).testBit k = true → listed.getD k false = true := by
        intro k h2
        rw [masks_at] at h2
        simp only [List.length_nil, Nat.not_lt_zero, if_false, Nat.sub_zero] at h2
        have ho' : ops.toList[i]? = some o := by simpa using ho
        rw [ho'] at h2
        obtain ⟨e, he, hb, h3⟩ := maskOf_bit _ _ _ h2
        have hon := hpre e (by simpa using he) hb
        rcases h3 with rfl | h3
        · exact hon
        · refine closed_bit hc e.on hon k ?_
          have hlt' := spec.acy i o ho e (by simpa using he) hb
          have : ((masks ops.toList []).take i).getD e.on 0 = (masks ops.toList []).getD e.on 0 := by
            simp [List.getD_eq_getElem?_getD, List.getElem?_take_of_lt hlt']
          rwa [this] at h3
      have des : ∀ k, ((masks ops.toList []).getD k 0).testBit i = true → listed.getD k false = false := by
        intro k h2
        cases hq : listed.getD k false with
        | false => rfl
        | true =>
          have := closed_bit hc k hq i h2
          rw [hSi] at this; simp at this
      -- the slots that the operation looks at
      have look : ∀ t ∈ o.looksAt ops, getS (setS s.slots (fun k => listed.getD k false) 0 (ops.toList.zip ds)) t = getS (lexS s.slots ((ops.toList.zip ds).take i)) t := by
        intro t ht
        refine agree _ i t fun k o' hk hd' => ?_
        rcases spec.ord i o t ho ht k o' hk hd' with ⟨h1, h2⟩ | ⟨h1, h2⟩
        · exact ⟨fun _ => h1, fun _ => anc k h2⟩
        · refine ⟨fun hk' => ?_, fun hk' => by omega⟩
          rw [des k h2] at hk'; simp at hk'
      have hS' : (fun k => (listed.setIfInBounds i true).getD k false) = fun k => if k = i then true else listed.getD k false := by
        funext k
        by_cases hk : k = i
        · subst hk; simp [hi']
        · rw [if_neg hk, getD_set_ne false (Ne.symm hk)]
      have hS'' : ∀ k, (listed.setIfInBounds i true).getD k false = if k = i then true else listed.getD k false := fun k => congrFun hS' k
      have hslots : mxS (setS s.slots (fun k => listed.getD k false) 0 (ops.toList.zip ds)) ≤ lim B s + effs ow (ops.toList.take p) := by
        refine mxS_setS (by unfold lim; omega) _ _ fun k z hz hS => ?_
        rw [Nat.zero_add] at hS
        exact hbd k z.2 (zat _ _ hz).2 hS
      have hev : ∀ x ∈ o.op.operands, ev (setS s.slots (fun k => listed.getD k false) 0 (ops.toList.zip ds)) x = ev (lexS s.slots ((ops.toList.zip ds).take i)) x := by
        intro x hx
        refine ev_congr fun t hxt => look t ?_
        subst hxt
        exact List.mem_append_left _ (List.mem_filterMap.2 ⟨.tmp t, by simpa using hx, rfl⟩)
      have hg : ∀ j want, o.guard = some (j, want) → gSlot ops ⟨setS s.slots (fun k => listed.getD k false) 0 (ops.toList.zip ds), owns p⟩ j = gSlot ops ⟨lexS s.slots ((ops.toList.zip ds).take i), ownM l1 l2 i (owns i)⟩ j := by
        intro j want hgd
        unfold gSlot
        cases ht : (ops[j]?).bind (·.dst) with
        | none => rfl
        | some t =>
          refine look t (List.mem_append_right _ ?_)
          rw [hgd]
          simp [ht]
      -- the next set
      have next : ∀ (p' : Nat) (a' : Act) (w' : World) (loc : Nat → Loc), p' ≤ ops.size → (∀ k o, ops[k]? = some o → isEff ow o = true → ((listed.setIfInBounds i true).getD k false = true ↔ k < p')) → effs ow (ops.toList.take p) ≤ effs ow (ops.toList.take p') → mx d ≤ lim B s + effs ow (ops.toList.take p') → mxE (owns p') ≤ lim B s + effs ow (ops.toList.take p') →
          Rel B ⟨putS (setS s.slots (fun k => listed.getD k false) 0 (ops.toList.zip ds)) o.dst d, owns p'⟩ a' w' loc → wpAnyIn (wd B.ro) 0 P .any ops (QQ B Q) fuel (listed.setIfInBounds i true) a' w' := by
        intro p' a' w' loc hp' hpe' hle hmd hmo R'
        refine ih _ p' a' w' loc (by simpa using hsz) ?_ hp' hpe' ?_ hmo ?_ ?_
        · rw [hS']
          intro k o' hk hS e he hb
          by_cases hki : k = i
          · subst hki
            rw [ho] at hk
            simp only [Option.some.injEq] at hk
            subst hk
            have := hpre e he hb
            simp only [this]; split <;> rfl
          · simp only [if_neg hki] at hS
            have := hc k o' hk hS e he hb
            simp only [this]; split <;> rfl
        · intro k d' hk hS
          rw [hS''] at hS
          by_cases hki : k = i
          · subst hki
            rw [hd] at hk
            simp only [Option.some.injEq] at hk
            subst hk
            exact hmd
          · rw [if_neg hki] at hS
            have := hbd k d' hk hS
            omega
        · rw [hS', cnt_set _ i hSi _ hlt]; omega
        · rw [hS']
          refine Rel.congr (fun t => ?_) R'
          rw [getS_putS]
          by_cases hdt : o.dst = some t
          · rw [if_pos hdt]
            exact getS_setS_some _ 0 i (o, d) (zat' i o d ho hd) hdt (by simp) (fun k' z' h1 h2 => uniq t i k' (o, d) z' (zat' i o d ho hd) hdt h1 h2)
          · rw [if_neg hdt]
            have e1 := fun S j hS => agree S j t hS
            by_cases hex : ∃ (k : Nat) (z : Oper × DVal), (ops.toList.zip ds)[k]? = some z ∧ z.1.dst = some t
            · obtain ⟨k, z, hz, hd'⟩ := hex
              have hki : k ≠ i := by
                intro hki; subst hki
                have := (zat _ _ hz).1
                rw [ho] at this
                simp only [Option.some.injEq] at this
                exact hdt (by rw [this]; exact hd')
              cases hSk : listed.getD k false with
              | true =>
                rw [getS_setS_some _ 0 k z hz hd' (by rw [Nat.zero_add]; simp [hki, hSk]) (fun k' z' h1 h2 => uniq t k k' z z' hz hd' h1 h2)]
                rw [getS_setS_some _ 0 k z hz hd' (by rw [Nat.zero_add]; exact hSk) (fun k' z' h1 h2 => uniq t k k' z z' hz hd' h1 h2)]
              | false =>
                rw [getS_setS_none _ 0 (fun k' z' h1 h2 => by
                  have := uniq t k k' z z' hz hd' h1 h2
                  subst this
                  rw [Nat.zero_add]; simp [hki, hSk])]
                rw [getS_setS_none _ 0 (fun k' z' h1 h2 => by
                  have := uniq t k k' z z' hz hd' h1 h2
                  subst this
                  rw [Nat.zero_add]; exact hSk)]
            · rw [getS_setS_none _ 0 (fun k' z' h1 h2 => absurd ⟨k', z', h1, h2⟩ hex), getS_setS_none _ 0 (fun k' z' h1 h2 => absurd ⟨k', z', h1, h2⟩ hex)]
      -- the operation itself
      rcases hst with ⟨heff, hdst, happ, hx⟩ | ⟨hneu, hown, hok'⟩
      · have hord : ∀ k o', ops[k]? = some o' → isEff ow o' = true → (k < p ↔ k < i) := by
          intro k o' hk he
          rw [← hpe k o' hk he]
          rcases spE.two k i o' o hk ho he with h | ⟨h1, h2⟩ | ⟨h1, h2⟩ | ⟨h1, _⟩
          · subst h; rw [hSi]; simp
          · exact ⟨fun _ => h1, fun _ => anc k h2⟩
          · rw [des k h2]; simp; omega
          · rw [heff] at h1; simp at h1
        have heq : owns p = owns i := same i p (by omega) hp hord
        have hcnt' : effs ow (ops.toList.take p) = effs ow (ops.toList.take i) := by
          have key : ∀ m q, q + m ≤ ops.size → (∀ k o', q ≤ k → k < q + m → ops[k]? = some o' → isEff ow o' = false) → effs ow (ops.toList.take (q + m)) = effs ow (ops.toList.take q) := by
            intro m
            induction m with
            | zero => intro q _ _; rfl
            | succ m ihm =>
              intro q hq hk
              have hlt' : q + m < ops.size := by omega
              rw [show q + (m + 1) = q + m + 1 by omega, List.take_add_one]
              have hg : ops.toList[q + m]? = some ops[q + m] := by simp [hlt']
              have hne := hk (q + m) ops[q + m] (by omega) (by omega) (by simp [hlt'])
              have := ihm q (by omega) fun k o' h1 h2 h3 => hk k o' h1 (by omega) h3
              unfold effs at this ⊢
              rw [hg, List.countP_append, this]
              simp [List.countP_cons, hne]
          by_cases hpi : p ≤ i
          · have := key (i - p) p (by omega) (fun k o' h1 h2 h3 => by
              cases hq : isEff ow o' with
              | false => rfl
              | true => have := (hord k o' h3 hq).2 (by omega); omega)
            rw [show p + (i - p) = i by omega] at this
            exact this.symm
          · have := key (p - i) i (by omega) (fun k o' h1 h2 h3 => by
              cases hq : isEff ow o' with
              | false => rfl
              | true => have := (hord k o' h3 hq).1 (by omega); omega)
            rwa [show i + (p - i) = p by omega] at this
        have hinc : effs ow (ops.toList.take (i + 1)) = effs ow (ops.toList.take i) + 1 := by
          have hg : ops.toList[i]? = some o := by simpa using ho
          rw [List.take_add_one, hg]
          unfold effs
          rw [List.countP_append]
          simp [List.countP_cons, heff]
        have hx' : EffOK P ops o ⟨setS s.slots (fun k => listed.getD k false) 0 (ops.toList.zip ds), owns p⟩ d (owns (i + 1)) (lim B s + effs ow (ops.toList.take i)) := by
          refine EffOK_congr (s := ⟨lexS s.slots ((ops.toList.zip ds).take i), owns i⟩) heq.symm (fun x hx => (hev x hx).symm) (fun j want hgd => (hg j want hgd).symm) ?_
          simpa using hx
        have hlim : lim B ⟨setS s.slots (fun k => listed.getD k false) 0 (ops.toList.zip ds), owns p⟩ ≤ lim B s + effs ow (ops.toList.take i) := by
          rw [← hcnt']
          have h0 : B.N ≤ lim B s := by unfold lim; omega
          unfold lim
          simp only
          have h1 := hslots
          have h2 := hbo
          have h3 : lim B s + effs ow (ops.toList.take p) = max B.N (max (mxS s.slots) (mxE s.own)) + effs ow (ops.toList.take p) := rfl
          have h4 : lim B s = max B.N (max (mxS s.slots) (mxE s.own)) := rfl
          omega
        have hmxx := EffOK_mx (n := lim B s + effs ow (ops.toList.take i)) heff hx' (by rw [← hcnt']; exact hbo) (by rw [← hcnt']; exact hslots) (Nat.le_refl _)
        have nx : ∀ (a' : Act) (w' : World) (loc' : Nat → Loc), Rel B ⟨putS (setS s.slots (fun k => listed.getD k false) 0 (ops.toList.zip ds)) o.dst d, owns (i + 1)⟩ a' w' loc' → wpAnyIn (wd B.ro) 0 P .any ops (QQ B Q) fuel (listed.setIfInBounds i true) a' w' := by
          intro a' w' loc' R'
          refine next (i + 1) a' w' loc' (by omega) ?_ (by rw [hcnt', hinc]; omega) (by rw [hinc]; have := hmxx.1; omega) (by rw [hinc]; have := hmxx.2; omega) R'
          intro k o' hk he
          rw [hS'']
          by_cases hki : k = i
          · rw [if_pos hki]; simp; omega
          · rw [if_neg hki, hpe k o' hk he, hord k o' hk he]
            omega
        unfold wpOpIn
        rw [ho]
        simp only
        unfold EffOK at hx'
        cases hgd : o.guard with
        | none =>
          rw [hgd] at hx'
          have hw : Region.wanted o (yielded ops a.tmps) = true := by simp [Region.wanted, hgd]
          rw [if_pos hw]
          exact eo_wp (R := R) hlim hdst (fun x _ => R.ev x) (fun x _ => ev_mx _ x) hx' nx
        | some jw =>
          obtain ⟨j, want⟩ := jw
          rw [hgd] at hx'
          simp only at hx'
          obtain ⟨g1, g2, g3⟩ := hx'
          have hgo := guard_ok (want := want) R g1
          have hw : Region.wanted o (yielded ops a.tmps) = gB (gSlot ops ⟨setS s.slots (fun k => listed.getD k false) 0 (ops.toList.zip ds), owns p⟩ j) want := by simp only [Region.wanted, hgd]; exact hgo
          rw [hw]
          rcases g3 with ⟨hb, d0, rfl, hx'⟩ | ⟨hb, rfl, hown'⟩
          · rw [hb] at g2 ⊢
            rw [if_pos rfl]
            have hsel := okL_sel (eff_op heff g2)
            exact eo_wp (R := R) hlim hdst (fun x hx => okL_ok (fun x => R.ev x) _ (eff_op heff g2) x (by simpa using hx)) (fun x hx => by
              unfold stripE
              rw [strip_mx (hsel x (by simpa using hx))]
              exact ev_mx _ x) hx' fun a' w' loc' R' => nx a' w' loc' R'.selTrue
          · rw [hb]
            rw [if_neg (by simp)]
            refine ⟨fun _ _ => trivial, nx _ _ loc ?_⟩
            rw [hown']
            exact R.put (dst_lt hdst) (Upd.refl _ _) (by simp [rd])
      have hext : ExtE (ownM l1 l2 i (owns i)) (owns p) ∨ (isIx o = true ∧ LenE (ownM l1 l2 i (owns i)) (owns p)) := by
        unfold ownM
        split
        · exact .inl fun id e hf => by simp [findE] at hf
        · rename_i hn2
          have hn2 : l2.contains i = false := by simpa using hn2
          have hord : ∀ k o', ops[k]? = some o' → isEff ow o' = true → ¬ (k < p ↔ k < i) → (l1.contains i = true ∧ isApp o' = true) ∨ ((l1.contains i = false ∧ isIx o = true) ∧ isSto o' = true) := by
            intro k o' hk he hne
            rw [← hpe k o' hk he] at hne
            rcases spE.two k i o' o hk ho he with h | ⟨h1, h2⟩ | ⟨h1, h2⟩ | ⟨h1, h2⟩
            · subst h; rw [hSi] at hne; simp at hne
            · exact absurd ⟨fun _ => h1, fun _ => anc k h2⟩ hne
            · rw [des k h2] at hne; simp at hne; omega
            · rw [hn2] at h2; simpa using h2
          split
          · rename_i hn1
            refine .inl (boxesE i p (by omega) hp fun k o' hk he hne => ?_)
            rcases hord k o' hk he hne with h | h
            · exact h.2
            · rw [hn1] at h; simp at h
          · rename_i hn1
            have hn1 : l1.contains i = false := by simpa using hn1
            cases hix : isIx o with
            | false =>
              refine .inl ?_
              rw [same i p (by omega) hp fun k o' hk he => by
                by_cases hq : (k < p ↔ k < i)
                · exact hq
                · rcases hord k o' hk he hq with h | h
                  · rw [hn1] at h; simp at h
                  · rw [hix] at h; simp at h]
              exact fun _ _ h => h
            | true =>
              refine .inr ⟨rfl, lensE i p (by omega) hp fun k o' hk he hne => ?_⟩
              rcases hord k o' hk he hne with h | h
              · rw [hn1] at h; simp at h
              · exact h.2
      have hpe' : ∀ k o', ops[k]? = some o' → isEff ow o' = true → ((listed.setIfInBounds i true).getD k false = true ↔ k < p) := by
        intro k o' hk he
        rw [hS'']
        by_cases hki : k = i
        · subst hki
          rw [ho] at hk
          simp only [Option.some.injEq] at hk
          subst hk
          rw [hneu] at he; simp at he
        · rw [if_neg hki]; exact hpe k o' hk he
      have evmx : ∀ x : Operand, mx (ev (setS s.slots (fun k => listed.getD k false) 0 (ops.toList.zip ds)) x) ≤ lim B s + effs ow (ops.toList.take p) := fun x => Nat.le_trans (ev_mx _ x) hslots
      have run : ∀ (e : Operand → DVal) (d' : DVal), (∀ x ∈ o.op.operands, Rds ⟨setS s.slots (fun k => listed.getD k false) 0 (ops.toList.zip ds), owns p⟩ loc B.M0 w (e x) (a.eval x)) →
          (∀ (w' : World) (v : Value), rd (curOf (owns p) loc) (hotOf (owns p) loc ++ B.M0) w'.heap d' v → rd (curOf (owns p) loc) (hotOf (owns p) loc ++ B.M0) w'.heap d v) → mx d ≤ lim B s + effs ow (ops.toList.take p) → OpOK1 P o (owns p) e d' → o.wpIn (wd B.ro) 0 P a w (wpAnyIn (wd B.ro) 0 P .any ops (QQ B Q) fuel (listed.setIfInBounds i true)) (QQ B Q) := by
        rintro e d' he hdv hmd (⟨c, g, args, hop, hcal, hp0⟩ | ⟨hp0, hq⟩)
        · exact call_wp (d' := d) (K := fun s' => s' = ⟨putS (setS s.slots (fun k => listed.getD k false) 0 (ops.toList.zip ds)) o.dst d, owns p⟩) R hok'.1 hop he hcal hp0 (fun _ => rfl) hdv (fun s' a' w' loc' hs' R' => by
            subst hs'
            exact next p a' w' loc' hp hpe' (Nat.le_refl _) hmd hbo R')
        · exact neu_wp (d := d) (K := fun s' => s' = ⟨putS (setS s.slots (fun k => listed.getD k false) 0 (ops.toList.zip ds)) o.dst d, owns p⟩) R hok'.1 he hp0 rfl (fun w' v h => hdv w' v (by rw [hq]; exact h)) (fun s' a' w' loc' hs' R' => by
            subst hs'
            exact next p a' w' loc' hp hpe' (Nat.le_refl _) hmd hbo R')
      unfold wpOpIn
      rw [ho]
      simp only
      obtain ⟨hdst, hok''⟩ := hok'
      have hok' : dstOK B.nt o.dst = true ∧ True := ⟨hdst, trivial⟩
      cases hgd : o.guard with
      | none =>
        have hw : Region.wanted o (yielded ops a.tmps) = true := by simp [Region.wanted, hgd]
        rw [if_pos hw]
        rw [hgd] at hok''
        have h1 := OpOK1.ext2 hok'' hext (fun x hx => (hev x hx).symm)
        exact (run _ d (fun x _ => R.ev x) (fun _ _ h => h) (h1.mx hbo fun x _ => evmx x) h1)
      | some jw =>
        obtain ⟨j, want⟩ := jw
        rw [hgd] at hok''
        simp only at hok''
        obtain ⟨g1, g2, d', rfl, g3⟩ := hok''
        rw [← hg j want hgd] at g1 g2 g3 next run
        have hgo := guard_ok (want := want) R g1
        have hw : Region.wanted o (yielded ops a.tmps) = gB (gSlot ops ⟨setS s.slots (fun k => listed.getD k false) 0 (ops.toList.zip ds), owns p⟩ j) want := by simp only [Region.wanted, hgd]; exact hgo
        rw [hw]
        have hokS := okOp_congr (fun x hx => (hev x hx).symm) g2
        have hstrip : ∀ x ∈ o.op.operands, stripE (lexS s.slots ((ops.toList.zip ds).take i)) x = stripE (setS s.slots (fun k => listed.getD k false) 0 (ops.toList.zip ds)) x := by
          intro x hx
          unfold stripE
          rw [hev x hx]
        split
        · rename_i hb
          rw [hb] at hokS
          have h1 := OpOK1.ext2 (g3 hb) hext hstrip
          have hdv : ∀ (w' : World) (v : Value), rd (curOf (owns p) loc) (hotOf (owns p) loc ++ B.M0) w'.heap d' v → rd (curOf (owns p) loc) (hotOf (owns p) loc ++ B.M0) w'.heap (.sel (gB (gSlot ops ⟨setS s.slots (fun k => listed.getD k false) 0 (ops.toList.zip ds), owns p⟩ j) want) d') v := by
            intro w' v h
            rw [hb]
            simp only [rd]
            exact ⟨fun _ => h, fun h' => by simp at h'⟩
          rcases h1 with ⟨c, g, args, hop, hcal, hp0⟩ | ⟨hp0, hq⟩
          · refine (run (stripE (setS s.slots (fun k => listed.getD k false) 0 (ops.toList.zip ds))) d' ?_ hdv (by rw [hb]; simp [mx, hp0.2.1]) (.inl ⟨c, g, args, hop, hcal, hp0⟩))
            rw [hop] at hokS ⊢
            exact fun x hx => okL_ok (fun x => R.ev x) _ hokS x (by simpa using hx)
          · obtain ⟨e', q1, q2, q3⟩ := okOp_ok (fun x => R.ev x) hokS hp0
            exact (run e' (nVal P (owns p) e' o.op) q1 (fun w' v h => hdv w' v (by rw [hq]; exact q3 _ _ _ _ h)) (by rw [hb, hq]; simpa [mx] using okOp_mx hokS hp0 hbo (fun x _ => evmx x)) (.inr ⟨q2, rfl⟩))
        · rename_i hb
          refine ⟨fun _ _ => trivial, ?_⟩
          refine next p _ _ loc hp hpe' (Nat.le_refl _) (by rw [show gB (gSlot ops ⟨setS s.slots (fun k => listed.getD k false) 0 (ops.toList.zip ds), owns p⟩ j) want = false by simpa using hb]; simp [mx]) hbo ?_
          have hb' : gB (gSlot ops ⟨setS s.slots (fun k => listed.getD k false) 0 (ops.toList.zip ds), owns p⟩ j) want = false := by simpa using hb
          rw [hb']
          exact R.put (dst_lt hdst) (Upd.refl _ _) (by simp [rd])
  have hrep : ∀ k, (Array.replicate ops.size false).getD k false = false := by
    intro k
    simp [Array.getD_eq_getD_getElem?, Array.getElem?_replicate]
    split <;> simp
  refine main ops.size (Array.replicate ops.size false) 0 a _ loc (by simp) ?_ (by omega) (fun k o hk he => by rw [hrep]; simp) (fun k d hk hS => by rw [hrep] at hS; simp at hS) (by rw [howns]; unfold lim; omega) ?_ ?_
  · intro k o hk hS
    simp [Array.getD_eq_getD_getElem?, Array.getElem?_replicate] at hS
    split at hS <;> simp at hS
  · have : (List.range ops.size).countP (fun k => (Array.replicate ops.size false).getD k false) = 0 := by
      rw [List.countP_eq_zero]
      intro k _
      simp [Array.getD_eq_getD_getElem?, Array.getElem?_replicate]
      split <;> simp
    omega
  · have R' := R.put (dst := none) (v := Go.undef) (d := .any) (fun i hi => by simp at hi) (Upd.drew [] w) (by simp [rd])
    rw [howns]
    refine Rel.congr (fun t => ?_) R'
    exact getS_setS_none _ 0 (fun k z hz hd => by
      simp [Array.getD_eq_getD_getElem?, Array.getElem?_replicate]
      split <;> simp)

/-- the same, where the order is the text's -/
theorem DW_region_textX (ow l1 l2 : List Nat) {id : Nat} {ops : Array Oper} {Q : Exit → DS → Prop} (h : dOpsX P B.nt ow l1 l2 ops ops.toList 0 ⟨Q .normal⟩ s) : DW P B (.region id ops false) Q s := by
  intro a w loc R
  refine wpIn_region ?_
  rw [List.range_eq_range']
  have ext : ∀ k (own : List Ent), (own.map (·.id)).Nodup → ExtE (ownM l1 l2 k own) own := by
    intro k own nd
    unfold ownM
    split
    · intro id e hf; simp [findE] at hf
    · split
      · intro id e hf
        obtain ⟨h1, h2⟩ := findE_mem hf
        rw [← h2]
        exact findE_of_mem nd (List.mem_filter.1 h1).1
      · exact fun _ _ h => h
  have key : ∀ (m i : Nat) (s : DS) (a : Act) (w : World) (loc : Nat → Loc), Rel B s a w loc → i + m = ops.size → dOpsX P B.nt ow l1 l2 ops (ops.toList.drop i) i ⟨Q .normal⟩ s → wpOpsIn (wd B.ro) 0 P ops (QQ B Q) (List.range' i m) a w := by
    intro m
    induction m with
    | zero =>
      intro i s a w loc R hi h
      rw [List.drop_of_length_le (by simp; omega)] at h
      simp only [List.range'_zero, wpOpsIn]
      exact ⟨s, loc, h, R⟩
    | succ m ih =>
      intro i s a w loc R hi h
      have hlt : i < ops.size := by omega
      have hdr : ops.toList.drop i = ops[i] :: ops.toList.drop (i + 1) := by
        rw [List.drop_eq_getElem_cons (by simpa using hlt)]; simp
      rw [hdr] at h
      simp only [List.range'_succ, wpOpsIn, Array.getElem?_eq_getElem hlt]
      have ih' := fun s' a' w' loc' (hk : dOpsX P B.nt ow l1 l2 ops (ops.toList.drop (i + 1)) (i + 1) ⟨Q .normal⟩ s') (R' : Rel B s' a' w' loc') => ih (i + 1) s' a' w' loc' R' (by omega) hk
      -- one neutral operation
      have neu : ∀ (e : Operand → DVal) (d d' : DVal), (∀ x ∈ ops[i].op.operands, Rds s loc B.M0 w (e x) (a.eval x)) → (∀ (w' : World) (v : Value), rd (curOf s.own loc) (hotOf s.own loc ++ B.M0) w'.heap d' v → rd (curOf s.own loc) (hotOf s.own loc ++ B.M0) w'.heap d v) →
          dstOK B.nt ops[i].dst = true → OpOK1 P ops[i] (ownM l1 l2 i s.own) e d' → dOpsX P B.nt ow l1 l2 ops (ops.toList.drop (i + 1)) (i + 1) ⟨Q .normal⟩ ⟨putS s.slots ops[i].dst d, s.own⟩ → ops[i].wpIn (wd B.ro) 0 P a w (wpOpsIn (wd B.ro) 0 P ops (QQ B Q) (List.range' (i + 1) m)) (QQ B Q) := by
        intro e d d' he hdv hd h1 hk
        rcases h1.ext (ext i s.own R.st.nd) (fun x _ => rfl) with ⟨c, g, args, hop, hcal, hp0⟩ | ⟨hp0, hq⟩
        · exact call_wp (d' := d) (K := fun s' => s' = ⟨putS s.slots ops[i].dst d, s.own⟩) R hd hop he hcal hp0 (fun _ => rfl) hdv (fun s' a' w' loc' hs' R' => by subst hs'; exact ih' _ a' w' loc' hk R')
        · exact neu_wp (d := d) (K := fun s' => s' = ⟨putS s.slots ops[i].dst d, s.own⟩) R hd he hp0 rfl (fun w' v h => hdv w' v (by rw [hq]; exact h)) (fun s' a' w' loc' hs' R' => by subst hs'; exact ih' _ a' w' loc' hk R')
      simp only [dOpsX] at h
      split at h
      · rename_i hg
        have hw : Region.wanted ops[i] (yielded ops a.tmps) = true := by simp [Region.wanted, hg]
        rw [if_pos hw]
        split at h
        · obtain ⟨hd, _, h⟩ := h
          obtain ⟨d, own', h1, h2⟩ := effX_out h (lim B s)
          exact eo_wp (R := R) (Nat.le_refl _) hd (fun x _ => R.ev x) (fun x _ => ev_mx _ x) h1 fun a' w' loc' R' => ih' _ a' w' loc' h2 R'
        · obtain ⟨hd, h⟩ := h
          split at h
          · rename_i c hop
            split at h
            · rename_i g args hc
              obtain ⟨d, h1, h2⟩ := callP_out h
              exact neu _ d d (fun x _ => R.ev x) (fun _ _ h => h) hd (.inl ⟨c, g, args, hop, hc, h1⟩) h2
            · exact neu _ _ _ (fun x _ => R.ev x) (fun _ _ h => h) hd (.inr ⟨h.1, rfl⟩) h.2
          · exact neu _ _ _ (fun x _ => R.ev x) (fun _ _ h => h) hd (.inr ⟨h.1, rfl⟩) h.2
      · rename_i j want hg
        obtain ⟨hgo, h⟩ := h
        have hgo' := guard_ok (want := want) R hgo
        have hw : Region.wanted ops[i] (yielded ops a.tmps) = gB (gSlot ops s j) want := by simp only [Region.wanted, hg]; exact hgo'
        rw [hw]
        split at h
        · rename_i heff
          obtain ⟨hd, _, hok, h⟩ := h
          cases hb : gB (gSlot ops s j) want with
          | true =>
            rw [if_pos rfl]
            rw [hb] at h hok
            obtain ⟨d0, own', h1, h2⟩ := effX_out (K := effSel _) h (lim B s)
            have hsel := okL_sel (eff_op heff hok)
            exact eo_wp (R := R) (Nat.le_refl _) hd (fun x hx => okL_ok (fun x => R.ev x) _ (eff_op heff hok) x (by simpa using hx)) (fun x hx => by
              unfold stripE
              rw [strip_mx (hsel x (by simpa using hx))]
              exact ev_mx _ x) h1 fun a' w' loc' R' => ih' _ a' w' loc' h2 R'.selTrue
          | false =>
            rw [if_neg (by simp)]
            rw [hb] at h
            exact ⟨fun _ _ => trivial, ih' _ _ _ loc h (R.put (dst_lt hd) (Upd.refl _ _) (by simp [rd]))⟩
        obtain ⟨hd, hok, h⟩ := h
        have mk : ∀ d', (gB (gSlot ops s j) want = true → OpOK1 P ops[i] (ownM l1 l2 i s.own) (stripE s.slots) d') → dOpsX P B.nt ow l1 l2 ops (ops.toList.drop (i + 1)) (i + 1) ⟨Q .normal⟩ ⟨putS s.slots ops[i].dst (.sel (gB (gSlot ops s j) want) d'), s.own⟩ →
            if gB (gSlot ops s j) want = true then ops[i].wpIn (wd B.ro) 0 P a w (wpOpsIn (wd B.ro) 0 P ops (QQ B Q) (List.range' (i + 1) m)) (QQ B Q) else (∀ f, ops[i].about P w a.eval = some f → (wd B.ro).fn f) ∧ wpOpsIn (wd B.ro) 0 P ops (QQ B Q) (List.range' (i + 1) m) (a.put ops[i].dst Go.undef) w := by
          intro d' h1 hk
          cases hb : gB (gSlot ops s j) want with
          | true =>
            rw [if_pos rfl]
            rw [hb] at hok h1 hk
            have hdv : ∀ (w' : World) (d'' : DVal) (v : Value), rd (curOf s.own loc) (hotOf s.own loc ++ B.M0) w'.heap d'' v → rd (curOf s.own loc) (hotOf s.own loc ++ B.M0) w'.heap (.sel true d'') v := by
              intro w' d'' v h
              simp only [rd]
              exact ⟨fun _ => h, fun h' => by simp at h'⟩
            rcases h1 rfl with ⟨c, g, args, hop, hcal, hp0⟩ | ⟨hp0, hq⟩
            · refine neu (stripE s.slots) (.sel true d') d' ?_ (fun w' v h => hdv w' _ v h) hd (.inl ⟨c, g, args, hop, hcal, hp0⟩) hk
              rw [hop] at hok ⊢
              exact fun x hx => okL_ok (fun x => R.ev x) _ hok x (by simpa using hx)
            · obtain ⟨e', q1, q2, q3⟩ := okOp_ok (fun x => R.ev x) hok hp0
              exact neu e' (.sel true d') (nVal P (ownM l1 l2 i s.own) e' ops[i].op) q1 (fun w' v h => hdv w' _ v (by rw [hq]; exact q3 _ _ _ _ h)) hd (.inr ⟨q2, rfl⟩) hk
          | false =>
            rw [if_neg (by simp)]
            rw [hb] at hk
            exact ⟨fun _ _ => trivial, ih' _ _ _ loc hk (R.put (dst_lt hd) (Upd.refl _ _) (by simp [rd]))⟩
        split at h
        · rename_i c hop
          split at h
          · rename_i g args hc
            obtain ⟨d, h1, h2⟩ := callG_out h
            exact mk d (fun hq => .inl ⟨c, g, args, hop, hc, h1 hq⟩) h2
          · exact mk _ (fun hq => .inr ⟨h.1 hq, rfl⟩) h.2
        · exact mk _ (fun hq => .inr ⟨h.1 hq, rfl⟩) h.2
  exact key ops.size 0 s a w loc R (by omega) (by simpa using h)

end
end Go.Dm
