/- The data machine, second make, part R: own objects under other names; contracts of functions that take and hand back own objects. -/
import Derived.Test.YtihkcegelghcpaaEnI1
set_option linter.unusedSimpArgs false
set_option linter.unusedVariables false
namespace Go.Dm

/-- a reference under its new name, if it has one -/
def renR (φ : Nat → Nat → Option (Nat × Nat)) : DVal → DVal
  | .osl i r => match φ i r with | some p => .osl p.1 p.2 | none => .any
  | .vw i r k bs a n => match φ i r with | some p => .vw p.1 p.2 k bs a n | none => .any
  | .bx i r off => match φ i r with | some p => .bx p.1 p.2 off | none => .any
  | .rx i r k a b => match φ i r with | some p => .rx p.1 p.2 k a b | none => .any
  | .omp i r => match φ i r with | some p => .omp p.1 p.2 | none => .any
  | .pk i r => match φ i r with | some p => .pk p.1 p.2 | none => .any
  | d => d
def okR : DVal → Prop
  | .osl _ _ | .vw _ _ _ _ _ _ | .bx _ _ _ | .rx _ _ _ _ _ | .omp _ _ | .pk _ _ => True
  | d => mx d = 0
def okRs : List DVal → Prop
  | [] => True
  | d :: ds => okR d ∧ okRs ds
def ren2 (φ : Nat → Nat → Option (Nat × Nat)) : DVal → DVal
  | .fn f us cs => .fn f (us.map (renR φ)) (cs.map (renR φ))
  | d => renR φ d
def ok2 : DVal → Prop
  | .fn _ us cs => okRs us ∧ okRs cs
  | d => okR d
def ok2s : List DVal → Prop
  | [] => True
  | d :: ds => ok2 d ∧ ok2s ds
def ren3 (φ : Nat → Nat → Option (Nat × Nat)) : DVal → DVal
  | .agg cs => .agg (cs.map (ren2 φ))
  | d => ren2 φ d
def ok3 : DVal → Prop
  | .agg cs => ok2s cs
  | d => ok2 d
def ok3s : List DVal → Prop
  | [] => True
  | d :: ds => ok3 d ∧ ok3s ds
def renD (φ : Nat → Nat → Option (Nat × Nat)) : DVal → DVal
  | .tup cs => .tup (cs.map (ren3 φ))
  | d => ren3 φ d
def okD : DVal → Prop
  | .tup cs => ok3s cs
  | d => ok3 d
def renO (φ : Nat → Nat → Option (Nat × Nat)) : DObj → DObj
  | .box cs => .box (cs.map (ren2 φ))
  | o => o
def okO : DObj → Prop
  | .box cs => ok2s cs
  | .row _ _ _ es => mxR es = 0
  | .map ks vs => mxL ks = 0 ∧ mxL vs = 0
  | .abs _ => True

section
variable {cur cur' : Cur} {M M' : List Nat} {h h' : Array Obj} {φ : Nat → Nat → Option (Nat × Nat)}

/-- the new names lead where the old ones led -/
def Leads (cur cur' : Cur) (φ : Nat → Nat → Option (Nat × Nat)) : Prop := ∀ i r p l, φ i r = some p → cur' p.1 p.2 = some l → cur i r = some l

theorem rd_renR (W : Weak cur cur' M M' h h' 0) (L : Leads cur cur' φ) {d : DVal} {v : Value} (hk : okR d) (hr : rd cur M h d v) : rd cur' M' h' (renR φ d) v := by
  cases d with
  | osl i r =>
    simp only [renR]
    split
    · rename_i p hp; simp only [rd] at hr ⊢; exact fun l hl => hr l (L i r p l hp hl)
    · simp [rd]
  | bx i r off =>
    simp only [renR]
    split
    · rename_i p hp; simp only [rd] at hr ⊢; exact fun l hl => hr l (L i r p l hp hl)
    · simp [rd]
  | vw i r k bs x n =>
    simp only [renR]
    split
    · rename_i p hp; simp only [rd] at hr ⊢; exact fun l hl => hr l (L i r p l hp hl)
    · simp [rd]
  | rx i r k a b =>
    simp only [renR]
    split
    · rename_i p hp; simp only [rd] at hr ⊢; exact fun l hl => hr l (L i r p l hp hl)
    · simp [rd]
  | omp i r =>
    simp only [renR]
    split
    · rename_i p hp; simp only [rd] at hr ⊢; exact fun l hl => hr l (L i r p l hp hl)
    · simp [rd]
  | pk i r =>
    simp only [renR]
    split
    · rename_i p hp; simp only [rd] at hr ⊢; exact fun l hl => hr l (L i r p l hp hl)
    · simp [rd]
  | _ => simp only [okR] at hk; simp only [renR]; exact rd_weak W _ v (Nat.le_of_eq hk) hr

theorem rdV_renR (W : Weak cur cur' M M' h h' 0) (L : Leads cur cur' φ) : ∀ {ds : List DVal} {vs : List Value}, okRs ds → rdV cur M h ds vs → rdV cur' M' h' (ds.map (renR φ)) vs
  | [], vs, _, hr => by simpa [rdV] using hr
  | d :: ds, vs, hk, hr => by
    simp only [okRs] at hk
    simp only [rdV, List.map_cons] at hr ⊢
    obtain ⟨v, r, rfl, h1, h2⟩ := hr
    exact ⟨v, r, rfl, rd_renR W L hk.1 h1, rdV_renR W L hk.2 h2⟩

theorem rd_ren2 (W : Weak cur cur' M M' h h' 0) (L : Leads cur cur' φ) {d : DVal} {v : Value} (hk : ok2 d) (hr : rd cur M h d v) : rd cur' M' h' (ren2 φ d) v := by
  cases d with
  | fn f us cs =>
    simp only [ok2] at hk
    simp only [ren2, rd] at hr ⊢
    obtain ⟨us', cs', h1, h2, h3⟩ := hr
    exact ⟨us', cs', h1, rdV_renR W L hk.1 h2, rdV_renR W L hk.2 h3⟩
  | _ => exact rd_renR W L (by simpa only [ok2] using hk) hr

theorem rdV_ren2 (W : Weak cur cur' M M' h h' 0) (L : Leads cur cur' φ) : ∀ {ds : List DVal} {vs : List Value}, ok2s ds → rdV cur M h ds vs → rdV cur' M' h' (ds.map (ren2 φ)) vs
  | [], vs, _, hr => by simpa [rdV] using hr
  | d :: ds, vs, hk, hr => by
    simp only [ok2s] at hk
    simp only [rdV, List.map_cons] at hr ⊢
    obtain ⟨v, r, rfl, h1, h2⟩ := hr
    exact ⟨v, r, rfl, rd_ren2 W L hk.1 h1, rdV_ren2 W L hk.2 h2⟩

theorem rdC_ren2 (W : Weak cur cur' M M' h h' 0) (L : Leads cur cur' φ) : ∀ {ds : List DVal} {arr : Array Value} {o : Nat}, ok2s ds → rdC cur M h ds arr o → rdC cur' M' h' (ds.map (ren2 φ)) arr o
  | [], _, _, _, _ => by simp [rdC]
  | d :: ds, arr, o, hk, hr => by
    simp only [ok2s] at hk
    simp only [rdC, List.map_cons] at hr ⊢
    obtain ⟨⟨v, h1, h2, h3⟩, h4⟩ := hr
    exact ⟨⟨v, h1, h2, rd_ren2 W L hk.1 h3⟩, rdC_ren2 W L hk.2 h4⟩

theorem rd_ren3 (W : Weak cur cur' M M' h h' 0) (L : Leads cur cur' φ) {d : DVal} {v : Value} (hk : ok3 d) (hr : rd cur M h d v) : rd cur' M' h' (ren3 φ d) v := by
  cases d with
  | agg cs =>
    simp only [ok3] at hk
    simp only [ren3, rd] at hr ⊢
    obtain ⟨us, h1, h2⟩ := hr
    exact ⟨us, h1, rdV_ren2 W L hk h2⟩
  | _ => exact rd_ren2 W L (by simpa only [ok3] using hk) hr

theorem rdV_ren3 (W : Weak cur cur' M M' h h' 0) (L : Leads cur cur' φ) : ∀ {ds : List DVal} {vs : List Value}, ok3s ds → rdV cur M h ds vs → rdV cur' M' h' (ds.map (ren3 φ)) vs
  | [], vs, _, hr => by simpa [rdV] using hr
  | d :: ds, vs, hk, hr => by
    simp only [ok3s] at hk
    simp only [rdV, List.map_cons] at hr ⊢
    obtain ⟨v, r, rfl, h1, h2⟩ := hr
    exact ⟨v, r, rfl, rd_ren3 W L hk.1 h1, rdV_ren3 W L hk.2 h2⟩

theorem rd_renD (W : Weak cur cur' M M' h h' 0) (L : Leads cur cur' φ) {d : DVal} {v : Value} (hk : okD d) (hr : rd cur M h d v) : rd cur' M' h' (renD φ d) v := by
  cases d with
  | tup cs =>
    simp only [okD] at hk
    simp only [renD, rd] at hr ⊢
    obtain ⟨us, h1, h2⟩ := hr
    exact ⟨us, h1, rdV_ren3 W L hk h2⟩
  | _ => exact rd_ren3 W L (by simpa only [okD] using hk) hr

theorem ObjOK_ren (W : Weak cur cur' M M' h h' 0) (L : Leads cur cur' φ) {l l' : Loc} {obj : DObj} (hk : okO obj) (hl : l' = l)
    (keep : ∀ b o, b ∈ l.blks → h[b]? = some o → h'[b]? = some o) (ho : ObjOK cur M h l obj) : ObjOK cur' M' h' l' (renO φ obj) := by
  subst hl
  cases obj with
  | box cs =>
    simp only [okO] at hk
    obtain ⟨b, arr, ty, h1, h2, h3, h4⟩ := ho
    exact ⟨b, arr, ty, h1, keep b _ (by simp [h1]) h2, by simp [h3], rdC_ren2 W L hk h4⟩
  | row et k bs es => exact ObjOK_weak W (by simp only [okO] at hk; simp [renO, mxO, hk]) keep ho
  | map ks vs => exact ObjOK_weak W (by simp only [okO] at hk; simp [renO, mxO, hk]) keep ho
  | abs A => exact ObjOK_weak W (by simp [renO, mxO]) keep ho
end

def FEnters (P : Program) : Fn → Prop
  | .func g => Enters P g
  | _ => True

/-- Function f is called with these data and these own objects (all of version 0): it hands back d; behind it the own objects are own' (of version 0 where an object has stayed in its place, else of version 1). -/
def DSpec (P : Program) (f : Fn) (args : List DVal) (own : List Ent) (d : DVal) (own' : List Ent) : Prop :=
  (∀ e ∈ own', e.r ≤ 1) ∧ FEnters P f ∧ ∀ (M : List Nat) (w : World) (loc : Nat → Loc) (vs : Array Value), St own loc M w.heap → rdV (curOf own loc) (hotOf own loc ++ M) w.heap args vs.toList →
    FCalls P f vs w fun v w' => ∃ loc', St own' loc' M w'.heap ∧ Upd (hotOf own loc) w w' ∧ (∀ b ∈ hotOf own' loc', b ∈ hotOf own loc ∨ w.heap.size ≤ b) ∧
      (∀ e ∈ own', e.r < 1 → curOf own loc e.id e.r = some (loc' e.id)) ∧ rd (curOf own' loc') (hotOf own' loc' ++ M) w'.heap d v

/-- which new name: ρ says (old number, new number, new version) of those that are handed on -/
def phiOf (own : List Ent) : List (Nat × Nat × Nat) → Nat → Nat → Option (Nat × Nat)
  | [], _, _ => none
  | (i, j, v) :: ρ, i', r' => if i' = i then (match findE own i with | some e => if r' = e.r then some (j, v) else none | none => none) else phiOf own ρ i' r'

/-- the own objects that are handed on -/
def outE (own : List Ent) (φ : Nat → Nat → Option (Nat × Nat)) : List (Nat × Nat × Nat) → Option (List Ent)
  | [] => some []
  | (i, j, v) :: ρ => match findE own i, outE own φ ρ with
    | some e, some l => some (⟨j, v, renO φ e.obj⟩ :: l)
    | _, _ => none
def outOK (own : List Ent) : List (Nat × Nat × Nat) → Prop
  | [] => True
  | (i, j, v) :: ρ => (match findE own i with | some e => okO e.obj ∧ (v = 1 ∨ (v = 0 ∧ i = j ∧ e.r = 0)) | none => False) ∧ outOK own ρ

section
variable {own : List Ent}

theorem phiOf_some : ∀ {ρ : List (Nat × Nat × Nat)} {i r : Nat} {p : Nat × Nat}, phiOf own ρ i r = some p → ∃ e, (i, p.1, p.2) ∈ ρ ∧ findE own i = some e ∧ e.r = r
  | [], i, r, p, h => by simp [phiOf] at h
  | (i0, j, v) :: ρ, i, r, p, h => by
    simp only [phiOf] at h
    split at h
    · rename_i hi
      subst hi
      split at h
      · rename_i e he
        split at h
        · rename_i hr
          simp only [Option.some.injEq] at h
          subst h
          exact ⟨e, List.mem_cons_self, he, hr.symm⟩
        · simp at h
      · simp at h
    · obtain ⟨e, h1, h2, h3⟩ := phiOf_some h
      exact ⟨e, List.mem_cons_of_mem _ h1, h2, h3⟩

theorem outE_mem {φ : Nat → Nat → Option (Nat × Nat)} : ∀ {ρ : List (Nat × Nat × Nat)} {l : List Ent}, outE own φ ρ = some l → (∀ x ∈ l, ∃ i j v e, (i, j, v) ∈ ρ ∧ findE own i = some e ∧ x = ⟨j, v, renO φ e.obj⟩) ∧ l.map (·.id) = ρ.map (·.2.1)
  | [], l, h => by simp only [outE, Option.some.injEq] at h; subst h; simp
  | (i, j, v) :: ρ, l, h => by
    simp only [outE] at h
    split at h
    · rename_i e l' he hl'
      simp only [Option.some.injEq] at h
      subst h
      obtain ⟨h1, h2⟩ := outE_mem hl'
      refine ⟨fun x hx => ?_, by simp [h2]⟩
      rcases List.mem_cons.1 hx with rfl | hx
      · exact ⟨i, j, v, e, List.mem_cons_self, he, rfl⟩
      · obtain ⟨i', j', v', e', g1, g2, g3⟩ := h1 x hx
        exact ⟨i', j', v', e', List.mem_cons_of_mem _ g1, g2, g3⟩
    · simp at h

theorem outOK_mem : ∀ {ρ : List (Nat × Nat × Nat)}, outOK own ρ → ∀ i j v, (i, j, v) ∈ ρ → ∃ e, findE own i = some e ∧ okO e.obj ∧ (v = 1 ∨ (v = 0 ∧ i = j ∧ e.r = 0))
  | [], _, i, j, v, hm => by cases hm
  | (i0, j0, v0) :: ρ, h, i, j, v, hm => by
    simp only [outOK] at h
    rcases List.mem_cons.1 hm with heq | hm
    · simp only [Prod.mk.injEq] at heq
      obtain ⟨rfl, rfl, rfl⟩ := heq
      have h1 := h.1
      split at h1
      · rename_i e he; exact ⟨e, he, h1⟩
      · exact h1.elim
    · exact outOK_mem h.2 i j v hm
end

/-- at a function's end: what is handed back, under the contract's names -/
def DretO (P : Program) (fn : Func) (ids : List Nat) (ρ : List (Nat × Nat × Nat)) (fz : DS → List Nat → DS) (wkr : DVal → DVal → Prop) (d : DVal) (own' : List Ent) : Exit → DS → Prop :=
  fun e s => match e with
  | .normal => match resD P (fz s ids) fn.results.toList with
    | some d0 => okD d0 ∧ wkr (renD (phiOf (fz s ids).own ρ) d0) d ∧ outE (fz s ids).own (phiOf (fz s ids).own ρ) ρ = some own' ∧ outOK (fz s ids).own ρ
    | none => False
  | .ret => match resD P (fz s ids) fn.results.toList with
    | some d0 => okD d0 ∧ wkr (renD (phiOf (fz s ids).own ρ) d0) d ∧ outE (fz s ids).own (phiOf (fz s ids).own ρ) ρ = some own' ∧ outOK (fz s ids).own ρ
    | none => False
  | _ => False

end Go.Dm
