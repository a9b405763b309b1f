/- Parts of a proof, laid together: EnQ. -/
import Derived.Test.YtedjakmhhlilaaaGreatqGx9
set_option linter.unusedSimpArgs false
set_option linter.unusedVariables false
set_option linter.unusedSectionVars false
section
namespace Go.Dm
variable [DMode]
def SpecAt (P : Program) (f : Fn) (args : List DVal) (own : List Ent) (r : Nat) (d : DVal) (own' : List Ent) : Prop :=
 FEnters P f ∧ (own'.map (·.id)).Nodup ∧ (mxE own ≤ r → mx d ≤ r + 1 ∧ mxE own' ≤ r + 1) ∧
 ∀ (M : List Nat) (w : World) (loc : Nat → Loc) (vs : Array Value), mxE own ≤ r → St own loc M w.heap → rdV (curOf own loc) (hotOf own loc ++ M) w.heap args vs.toList →
  FCalls P f vs w fun v w' => ∃ loc', St own' loc' M w'.heap ∧ Upd (hotOf own loc) w w' ∧ (∀ b ∈ hotOf own' loc', b ∈ hotOf own loc ∨ w.heap.size ≤ b) ∧
   (∀ e ∈ own', e.r < r → curOf own loc e.id e.r = some (loc' e.id)) ∧ rd (curOf own' loc') (hotOf own' loc' ++ M) w'.heap d v
def lookR : List (Nat × Nat) → Nat → Option Nat
 | [], _ => none
 | (i, j') :: t, j => if j = j' then some i else lookR t j
def inRho (ρ : List (Nat × Nat)) : List (Nat × Nat × Nat) := ρ.map fun p => (p.1, p.2, 0)
def backOf (own : List Ent) (ρ ν : List (Nat × Nat)) (r : Nat) : Nat → Nat → Option (Nat × Nat) := fun j v =>
 if v = 0 then (match lookR ρ j with | some i => (match findE own i with | some e => some (i, e.r) | none => none) | none => none)
 else if v = 1 then (match lookR (ρ ++ ν) j with | some i => some (i, r) | none => none)
 else none
def backE (φ : Nat → Nat → Option (Nat × Nat)) : List Ent → Option (List Ent)
 | [] => some []
 | e :: t => match φ e.id e.r, backE φ t with
  | some p, some l => some (⟨p.1, p.2, renO φ e.obj⟩ :: l)
  | _, _ => none
def frameE : List Ent → List Nat → List Ent
 | [], _ => []
 | e :: t, ids => if ids.contains e.id then frameE t ids else e :: frameE t ids
def okOs : List Ent → Prop
 | [] => True
 | e :: t => okO e.obj ∧ okOs t
def okDs : List DVal → Prop
 | [] => True
 | d :: t => okD d ∧ okDs t
def inOK (own : List Ent) : List (Nat × Nat) → Prop
 | [] => True
 | (i, _) :: t => (match findE own i with | some e => okO e.obj | none => False) ∧ inOK own t
theorem lookR_mem : ∀ {l : List (Nat × Nat)} {j i : Nat}, lookR l j = some i → (i, j) ∈ l
 | [], j, i, h => by simp [lookR] at h
 | (i', j') :: t, j, i, h => by
  simp only [lookR] at h
  split at h
  ·rename_i hj
   simp only [Option.some.injEq] at h
   subst h; subst hj
   exact List.mem_cons_self
  ·exact List.mem_cons_of_mem _ (lookR_mem h)
theorem lookR_of_mem : ∀ {l : List (Nat × Nat)} {j i : Nat}, (l.map (·.2)).Nodup → (i, j) ∈ l → lookR l j = some i
 | (i', j') :: t, j, i, hn, h => by
  simp only [List.map_cons, List.nodup_cons] at hn
  simp only [lookR]
  rcases List.mem_cons.1 h with h | h
  ·simp only [Prod.mk.injEq] at h
   rw [if_pos h.2, h.1]
  ·rw [if_neg (fun hj => hn.1 (by rw [← hj]; exact List.mem_map_of_mem (f := (·.2)) h)), lookR_of_mem hn.2 h]
theorem fst_inj {l : List (Nat × Nat)} (hn : (l.map (·.1)).Nodup) {i j j' : Nat} (h : (i, j) ∈ l) (h' : (i, j') ∈ l) : j = j' := by
 induction l with
 | nil => cases h
 | cons a l ih =>
  simp only [List.map_cons, List.nodup_cons] at hn
  rcases List.mem_cons.1 h with rfl | h1
  ·rcases List.mem_cons.1 h' with h' | h2
   ·simp only [Prod.mk.injEq] at h'; exact h'.2.symm
   ·exact absurd (List.mem_map_of_mem (f := (·.1)) h2) hn.1
  ·rcases List.mem_cons.1 h' with rfl | h2
   ·exact absurd (List.mem_map_of_mem (f := (·.1)) h1) hn.1
   ·exact ih hn.2 h1 h2
theorem mem_frameE {own : List Ent} {ids : List Nat} {e : Ent} : e ∈ frameE own ids ↔ e ∈ own ∧ e.id ∉ ids := by
 induction own with
 | nil => simp [frameE]
 | cons a t ih =>
  simp only [frameE]
  split
  ·rename_i hc
   have hc : a.id ∈ ids := by simpa using hc
   rw [ih]
   constructor
   ·rintro ⟨h1, h2⟩; exact ⟨List.mem_cons_of_mem _ h1, h2⟩
   ·rintro ⟨h1, h2⟩
    rcases List.mem_cons.1 h1 with rfl | h1
    ·exact absurd hc h2
    ·exact ⟨h1, h2⟩
  ·rename_i hc
   have hc : a.id ∉ ids := by simpa using hc
   rw [List.mem_cons, ih, List.mem_cons]
   constructor
   ·rintro (rfl | ⟨h1, h2⟩)
    ·exact ⟨.inl rfl, hc⟩
    ·exact ⟨.inr h1, h2⟩
   ·rintro ⟨rfl | h1, h2⟩
    ·exact .inl rfl
    ·exact .inr ⟨h1, h2⟩
theorem frameE_sub (own : List Ent) (ids : List Nat) : (frameE own ids).Sublist own := by
 induction own with
 | nil => exact List.Sublist.refl _
 | cons a t ih =>
  simp only [frameE]
  split
  ·exact ih.cons _
  ·exact ih.cons_cons _
theorem backE_mem {φ : Nat → Nat → Option (Nat × Nat)} : ∀ {l l' : List Ent}, backE φ l = some l' → (∀ x ∈ l', ∃ e ∈ l, ∃ p, φ e.id e.r = some p ∧ x = ⟨p.1, p.2, renO φ e.obj⟩)
 | [], l', h => by simp only [backE, Option.some.injEq] at h; subst h; simp
 | e :: t, l', h => by
  simp only [backE] at h
  split at h
  ·rename_i p l hp hl
   simp only [Option.some.injEq] at h
   subst h
   intro x hx
   rcases List.mem_cons.1 hx with rfl | hx
   ·exact ⟨e, List.mem_cons_self, p, hp, rfl⟩
   ·obtain ⟨e', h1, h2⟩ := backE_mem hl x hx
    exact ⟨e', List.mem_cons_of_mem _ h1, h2⟩
  ·simp at h
theorem backE_hot {φ : Nat → Nat → Option (Nat × Nat)} {loc loc' : Nat → Loc} : ∀ {l l' : List Ent}, backE φ l = some l' → (∀ e ∈ l, ∀ p, φ e.id e.r = some p → loc' p.1 = loc e.id) → hotOf l' loc' = hotOf l loc
 | [], l', h, _ => by simp only [backE, Option.some.injEq] at h; subst h; rfl
 | e :: t, l', h, hl => by
  simp only [backE] at h
  split at h
  ·rename_i p l hp hl'
   simp only [Option.some.injEq] at h
   subst h
   rw [hot_cons, hot_cons, backE_hot hl' (fun e he => hl e (List.mem_cons_of_mem _ he))]
   simp only
   rw [hl e List.mem_cons_self p hp]
  ·simp at h
theorem okOs_mem {l : List Ent} (h : okOs l) : ∀ e ∈ l, okO e.obj := by
 induction l with
 | nil => intro x hx; simp at hx
 | cons e t ih =>
  intro x hx
  simp only [okOs] at h
  rcases List.mem_cons.1 hx with rfl | hx
  ·exact h.1
  ·exact ih h.2 x hx
theorem inOK_mem {own : List Ent} : ∀ {l : List (Nat × Nat)}, inOK own l → ∀ i j, (i, j) ∈ l → ∃ e, findE own i = some e ∧ okO e.obj
 | (i', j') :: t, h, i, j, hm => by
  simp only [inOK] at h
  rcases List.mem_cons.1 hm with hm | hm
  ·simp only [Prod.mk.injEq] at hm
   obtain ⟨rfl, rfl⟩ := hm
   have h1 := h.1
   split at h1
   ·rename_i e he; exact ⟨e, he, h1⟩
   ·exact h1.elim
  ·exact inOK_mem h.2 i j hm
theorem hot_nodup_ids0 {own : List Ent} {loc : Nat → Loc} (hn : (hotOf own loc).Nodup) : ∀ l : List Ent, (l.map (·.id)).Nodup → (∀ e ∈ l, ∃ e0 ∈ own, e0.id = e.id) → (hotOf l loc).Nodup
 | [], _, _ => by simp [hotOf]
 | e :: l, hd, hm => by
  simp only [List.map_cons, List.nodup_cons] at hd
  rw [hot_cons, List.nodup_append]
  obtain ⟨e0, he0, hid0⟩ := hm e List.mem_cons_self
  refine ⟨by rw [← hid0]; exact blks_nodup hn e0 he0, hot_nodup_ids0 hn l hd.2 (fun x hx => hm x (List.mem_cons_of_mem _ hx)), ?_⟩
  intro b hb b' hb' hbb
  subst hbb
  obtain ⟨e2, he2, hb2⟩ := List.mem_flatMap.1 hb'
  obtain ⟨e3, he3, hid3⟩ := hm e2 (List.mem_cons_of_mem _ he2)
  have := hot_inj hn e0 he0 e3 he3 b (by rw [hid0]; exact hb) (by rw [hid3]; exact hb2)
  subst this
  exact hd.1 (List.mem_map.2 ⟨e2, he2, by rw [← hid3, hid0]⟩)
def locB (loc0' loc : Nat → Loc) : List (Nat × Nat) → Nat → Loc
 | [], i => loc i
 | (i', j) :: t, i => if i = i' then loc0' j else locB loc0' loc t i
theorem locB_mem {loc0' loc : Nat → Loc} : ∀ {l : List (Nat × Nat)} {i j : Nat}, (l.map (·.1)).Nodup → (i, j) ∈ l → locB loc0' loc l i = loc0' j
 | (i', j') :: t, i, j, hn, hm => by
  simp only [List.map_cons, List.nodup_cons] at hn
  simp only [locB]
  rcases List.mem_cons.1 hm with h | h
  ·simp only [Prod.mk.injEq] at h
   rw [if_pos h.1, h.2]
  ·rw [if_neg (fun hi => hn.1 (by rw [← hi]; exact List.mem_map_of_mem (f := (·.1)) h)), locB_mem hn.2 h]
theorem locB_not {loc0' loc : Nat → Loc} : ∀ {l : List (Nat × Nat)} {i : Nat}, i ∉ l.map (·.1) → locB loc0' loc l i = loc i
 | [], i, h => rfl
 | (i', j') :: t, i, h => by
  simp only [List.map_cons, List.mem_cons, not_or] at h
  simp only [locB]
  rw [if_neg h.1, locB_not h.2]
section
variable {φ : Nat → Nat → Option (Nat × Nat)} {n : Nat}
theorem mx_renR (hφ : ∀ i v p, φ i v = some p → p.2 ≤ n) {d : DVal} (h : okR d) : mx (renR φ d) ≤ n + 1 := by
 cases d <;> simp only [renR, okR] at h ⊢ <;> first
  |(split
    ·rename_i p hp; have := hφ _ _ _ hp; simp only [mx]; omega
    ·simp [mx])
  | (rw [h]; omega)
theorem mxL_renR (hφ : ∀ i v p, φ i v = some p → p.2 ≤ n) : ∀ {ds : List DVal}, okRs ds → mxL (ds.map (renR φ)) ≤ n + 1
 | [], _ => by simp [mxL]
 | d :: ds, h => by
  simp only [okRs] at h
  have h1 := mx_renR hφ h.1
  have h2 := mxL_renR hφ h.2
  simp only [List.map_cons, mxL]; omega
theorem mx_ren2 (hφ : ∀ i v p, φ i v = some p → p.2 ≤ n) {d : DVal} (h : ok2 d) : mx (ren2 φ d) ≤ n + 1 := by
 cases d with
 | fn f us cs =>
  simp only [ok2] at h
  have h1 := mxL_renR hφ h.1
  have h2 := mxL_renR hφ h.2
  simp only [ren2, mx]; omega
 | _ => exact mx_renR hφ (by simpa only [ok2] using h)
theorem mxL_ren2 (hφ : ∀ i v p, φ i v = some p → p.2 ≤ n) : ∀ {ds : List DVal}, ok2s ds → mxL (ds.map (ren2 φ)) ≤ n + 1
 | [], _ => by simp [mxL]
 | d :: ds, h => by
  simp only [ok2s] at h
  have h1 := mx_ren2 hφ h.1
  have h2 := mxL_ren2 hφ h.2
  simp only [List.map_cons, mxL]; omega
theorem mx_ren3 (hφ : ∀ i v p, φ i v = some p → p.2 ≤ n) {d : DVal} (h : ok3 d) : mx (ren3 φ d) ≤ n + 1 := by
 cases d with
 | agg cs =>
  simp only [ok3] at h
  have h1 := mxL_ren2 hφ h
  simp only [ren3, mx]; omega
 | _ => exact mx_ren2 hφ (by simpa only [ok3] using h)
theorem mxL_ren3 (hφ : ∀ i v p, φ i v = some p → p.2 ≤ n) : ∀ {ds : List DVal}, ok3s ds → mxL (ds.map (ren3 φ)) ≤ n + 1
 | [], _ => by simp [mxL]
 | d :: ds, h => by
  simp only [ok3s] at h
  have h1 := mx_ren3 hφ h.1
  have h2 := mxL_ren3 hφ h.2
  simp only [List.map_cons, mxL]; omega
theorem mx_renD (hφ : ∀ i v p, φ i v = some p → p.2 ≤ n) {d : DVal} (h : okD d) : mx (renD φ d) ≤ n + 1 := by
 cases d with
 | tup cs =>
  simp only [okD] at h
  have h1 := mxL_ren3 hφ h
  simp only [renD, mx]; omega
 | _ => exact mx_ren3 hφ (by simpa only [okD] using h)
theorem mxR_ren2 (hφ : ∀ i v p, φ i v = some p → p.2 ≤ n) : ∀ {es : List (List DVal)}, ok2r es → mxR (ren2r φ es) ≤ n + 1
 | [], _ => by simp [ren2r, mxR]
 | c :: l, h => by
  simp only [ok2r] at h
  have h1 := mxL_ren2 hφ h.1
  have h2 := mxR_ren2 hφ h.2
  simp only [ren2r, mxR]; omega
theorem mxO_renO (hφ : ∀ i v p, φ i v = some p → p.2 ≤ n) {o : DObj} (h : okO o) : mxO (renO φ o) ≤ n + 1 := by
 cases o with
 | box cs => simp only [okO] at h; simp only [renO, mxO]; exact mxL_ren2 hφ h
 | row et k bs es =>
  simp only [renO]
  split
  ·rename_i h0; simp only [mxO, h0]; omega
  ·rename_i h0
   simp only [okO] at h
   simp only [mxO]
   exact mxR_ren2 hφ (h.resolve_left h0)
 | map ks vs => simp only [okO] at h; simp only [renO, mxO, h.1, h.2]; omega
 | abs A => simp only [renO, mxO]; omega
 | lrec => exact h.elim
 | glob => exact h.elim
 | mapD => exact h.elim
end
theorem mxE_le {l : List Ent} {n : Nat} (h : ∀ e ∈ l, e.r + 1 ≤ n ∧ mxO e.obj ≤ n) : mxE l ≤ n := by
 induction l with
 | nil => simp [mxE]
 | cons e t ih =>
  have h1 := h e List.mem_cons_self
  have h2 := ih fun e he => h e (List.mem_cons_of_mem _ he)
  simp only [mxE]; omega
theorem rdV_renD {cur cur' : Cur} {M M' : List Nat} {h h' : Array Obj} {φ : Nat → Nat → Option (Nat × Nat)} (W : Weak cur cur' M M' h h' 0) (L : Leads cur cur' φ) : ∀ {ds : List DVal} {vs : List Value}, okDs ds → rdV cur M h ds vs → rdV cur' M' h' (ds.map (renD φ)) vs
 | [], vs, _, hr => by simpa [rdV] using hr
 | d :: ds, vs, hk, hr => by
  simp only [okDs] at hk
  simp only [rdV, List.map_cons] at hr ⊢
  obtain ⟨v, r, rfl, h1, h2⟩ := hr
  exact ⟨v, r, rfl, rd_renD W L hk.1 h1, rdV_renD W L hk.2 h2⟩
abbrev Tran := Array Value → World → (Value → World → Prop) → Prop
def DSpecG (C : Tran) (args : List DVal) (own : List Ent) (d : DVal) (own' : List Ent) : Prop :=
 ∀ (M : List Nat) (w : World) (loc : Nat → Loc) (vs : Array Value), St own loc M w.heap → rdV (curOf own loc) (hotOf own loc ++ M) w.heap args vs.toList →
  C vs w fun v w' => ∃ loc', St own' loc' M w'.heap ∧ Upd (hotOf own loc) w w' ∧ (∀ b ∈ hotOf own' loc', b ∈ hotOf own loc ∨ w.heap.size ≤ b) ∧
   (∀ e ∈ own', e.r < 1 → curOf own loc e.id e.r = some (loc' e.id)) ∧ rd (curOf own' loc') (hotOf own' loc' ++ M) w'.heap d v
def SpecC (C : Tran) (args : List DVal) (own : List Ent) (r : Nat) (d : DVal) (own' : List Ent) : Prop :=
 ∀ (M : List Nat) (w : World) (loc : Nat → Loc) (vs : Array Value), mxE own ≤ r → St own loc M w.heap → rdV (curOf own loc) (hotOf own loc ++ M) w.heap args vs.toList →
  C vs w fun v w' => ∃ loc', St own' loc' M w'.heap ∧ Upd (hotOf own loc) w w' ∧ (∀ b ∈ hotOf own' loc', b ∈ hotOf own loc ∨ w.heap.size ≤ b) ∧
   (∀ e ∈ own', e.r < r → curOf own loc e.id e.r = some (loc' e.id)) ∧ rd (curOf own' loc') (hotOf own' loc' ++ M) w'.heap d v
theorem SpecC_of {C : Tran} (hC : ∀ vs w (R R' : Value → World → Prop), (∀ v w', R v w' → R' v w') → C vs w R → C vs w R') {args args0 : List DVal} {own own0 own0' l : List Ent} {d0 : DVal} {r : Nat} (ρ ν : List (Nat × Nat)) (hcall : DSpecG C args0 own0 d0 own0')
  (hin : outE own (phiOf own (inRho ρ)) (inRho ρ) = some own0) (hok : inOK own ρ) (hargs : okDs args ∧ wkA (args.map (renD (phiOf own (inRho ρ)))) args0)
  (hid : ((ρ ++ ν).map (·.1)).Nodup ∧ (ρ.map (·.2)).Nodup) (hout : backE (backOf own ρ ν r) own0' = some l) (hokO : okOs own0') (hokd : okD d0) (hnd : ((frameE own ((ρ ++ ν).map (·.1)) ++ l).map (·.id)).Nodup) :
  SpecC C args own r (renD (backOf own ρ ν r) d0) (frameE own ((ρ ++ ν).map (·.1)) ++ l) := by
 intro M w loc vs hmx S hr
 -- the way in
 have hloc0 : ∀ i j, (i, j) ∈ ρ → loc ((lookR ρ j).getD 0) = loc i := by
  intro i j hm
  simp only [lookR_of_mem hid.2 hm, Option.getD_some]
 obtain ⟨hm0, hids0⟩ := outE_mem hin
 have hm0' : ∀ x ∈ own0, ∃ i e, (i, x.id) ∈ ρ ∧ findE own i = some e ∧ x = ⟨x.id, 0, renO (phiOf own (inRho ρ)) e.obj⟩ := by
  intro x hx
  obtain ⟨i, j, v, e, h1, h2, h3⟩ := hm0 x hx
  simp only [inRho, List.mem_map, Prod.mk.injEq] at h1
  obtain ⟨p, hp, rfl, rfl, rfl⟩ := h1
  subst h3
  exact ⟨p.1, e, hp, h2, rfl⟩
 have hids0 : own0.map (·.id) = ρ.map (·.2) := by
  rw [hids0]; simp [inRho]
 have hnd0 : (own0.map (·.id)).Nodup := by rw [hids0]; exact hid.2
 have hρ1 : (ρ.map (·.1)).Nodup := by
  have := hid.1
  rw [List.map_append, List.nodup_append] at this
  exact this.1
 have hsel : hotOf own0 (fun j => loc ((lookR ρ j).getD 0)) = hotOf (own0.map fun x => ⟨(lookR ρ x.id).getD 0, 0, x.obj⟩) loc := by
  simp [hotOf, List.flatMap_map]
 have hselid : ((own0.map fun x => (⟨(lookR ρ x.id).getD 0, 0, x.obj⟩ : Ent)).map (·.id)).Nodup := by
  rw [List.map_map]
  have : own0.map ((·.id) ∘ fun x => (⟨(lookR ρ x.id).getD 0, 0, x.obj⟩ : Ent)) = ρ.map (·.1) := by
   have e1 : own0.map ((·.id) ∘ fun x => (⟨(lookR ρ x.id).getD 0, 0, x.obj⟩ : Ent)) = (own0.map (·.id)).map (fun j => (lookR ρ j).getD 0) := by
    rw [List.map_map]; rfl
   rw [e1, hids0, List.map_map]
   refine List.map_congr_left fun p hp => ?_
   simp only [Function.comp_def]
   rw [lookR_of_mem hid.2 hp]; rfl
  rw [this]; exact hρ1
 have hselm : ∀ e ∈ own0.map (fun x => (⟨(lookR ρ x.id).getD 0, 0, x.obj⟩ : Ent)), ∃ e0 ∈ own, e0.id = e.id := by
  intro e he
  obtain ⟨x, hx, rfl⟩ := List.mem_map.1 he
  obtain ⟨i, e, h1, h2, _⟩ := hm0' x hx
  simp only [lookR_of_mem hid.2 h1, Option.getD_some]
  exact ⟨e, findE_mem h2⟩
 have hhot0 : ∀ b ∈ hotOf own0 (fun j => loc ((lookR ρ j).getD 0)), ∃ i j e, (i, j) ∈ ρ ∧ e ∈ own ∧ e.id = i ∧ b ∈ (loc i).blks := by
  intro b hb
  obtain ⟨x, hx, hb⟩ := List.mem_flatMap.1 hb
  obtain ⟨i, e, h1, h2, _⟩ := hm0' x hx
  simp only [lookR_of_mem hid.2 h1, Option.getD_some] at hb
  exact ⟨i, x.id, e, h1, (findE_mem h2).1, (findE_mem h2).2, hb⟩
 have hin0 : ∀ b ∈ hotOf own0 (fun j => loc ((lookR ρ j).getD 0)), b ∈ hotOf own loc := by
  intro b hb
  obtain ⟨i, j, e, _, h2, rfl, h4⟩ := hhot0 b hb
  exact mem_hot h2 h4
 have hfr : ∀ b ∈ hotOf (frameE own ((ρ ++ ν).map (·.1))) loc, b ∈ hotOf own loc := by
  intro b hb
  obtain ⟨e, he, hb⟩ := List.mem_flatMap.1 hb
  exact mem_hot (mem_frameE.1 he).1 hb
 have hdis : ∀ b ∈ hotOf own0 (fun j => loc ((lookR ρ j).getD 0)), b ∉ hotOf (frameE own ((ρ ++ ν).map (·.1))) loc := by
  intro b hb hb'
  obtain ⟨i, j, e, h1, h2, rfl, h4⟩ := hhot0 b hb
  obtain ⟨e', he', hb'⟩ := List.mem_flatMap.1 hb'
  obtain ⟨g1, g2⟩ := mem_frameE.1 he'
  have := hot_inj S.bl e h2 e' g1 b h4 hb'
  subst this
  exact g2 (List.mem_map_of_mem (f := (·.1)) (List.mem_append_left _ h1))
 have hM : ∀ b, b ∈ hotOf own0 (fun j => loc ((lookR ρ j).getD 0)) ++ (hotOf (frameE own ((ρ ++ ν).map (·.1))) loc ++ M) → b ∈ hotOf own loc ++ M := by
  intro b hb
  simp only [List.mem_append] at hb ⊢
  rcases hb with hb | hb | hb
  ·exact .inl (hin0 b hb)
  ·exact .inl (hfr b hb)
  ·exact .inr hb
 have W0 : Weak (curOf own loc) (curOf own0 fun j => loc ((lookR ρ j).getD 0)) (hotOf own loc ++ M) (hotOf own0 (fun j => loc ((lookR ρ j).getD 0)) ++ (hotOf (frameE own ((ρ ++ ν).map (·.1))) loc ++ M)) w.heap w.heap 0 :=
  ⟨fun id r l hr => by omega, fun b o _ (_ : isD o = true) ho => ho, fun b o hb (_ : isD o = true) _ hm => hb (hM b hm)⟩
 have L0 : Leads (curOf own loc) (curOf own0 fun j => loc ((lookR ρ j).getD 0)) (phiOf own (inRho ρ)) := by
  intro i v p lc hp hl
  obtain ⟨e, h1, h2, h3⟩ := phiOf_some hp
  simp only [inRho, List.mem_map, Prod.mk.injEq] at h1
  obtain ⟨q, hq, rfl, hq2, _⟩ := h1
  obtain ⟨e0, _, g1, _, g3⟩ := curOf_some hl
  rw [← h3]
  obtain ⟨k1, k2⟩ := findE_mem h2
  rw [← k2, curOf_self S.nd k1, g3, ← hq2, k2, hloc0 q.1 q.2 hq]
 have S0 : St own0 (fun j => loc ((lookR ρ j).getD 0)) (hotOf (frameE own ((ρ ++ ν).map (·.1))) loc ++ M) w.heap := by
  refine ⟨hnd0, ?_, ?_, ?_, ?_⟩
  ·rw [hsel]
   exact hot_nodup_ids0 S.bl _ hselid hselm
  ·intro b hb hm
   rcases List.mem_append.1 hm with hm | hm
   ·exact hdis b hb hm
   ·exact S.ap b (hin0 b hb) hm
  ·intro b hb
   exact S.lt b (hM b hb)
  ·intro x hx
   obtain ⟨i, e, h1, h2, h3⟩ := hm0' x hx
   obtain ⟨e', h4, h5⟩ := inOK_mem hok i x.id h1
   rw [h2] at h4
   simp only [Option.some.injEq] at h4
   subst h4
   obtain ⟨k1, k2⟩ := findE_mem h2
   rw [h3]
   have := ObjOK_ren W0 L0 (l := loc i) (l' := (fun j => loc ((lookR ρ j).getD 0)) x.id) h5 (hloc0 i x.id h1) (fun b o _ ho => ho) (by have := S.ok e k1; rwa [k2] at this)
   exact this
 have hr0 := rd_wkA (hargs.2) (rdV_renD W0 L0 hargs.1 hr)
 refine hC _ _ _ _ ?_ (hcall _ w _ vs S0 hr0)
 rintro v w' ⟨loc0', S1, hu, hnew, hver, hrd⟩
 -- the way back
 have hφ : ∀ e ∈ own0', ∀ p, backOf own ρ ν r e.id e.r = some p → (p.1, e.id) ∈ ρ ++ ν ∧ ((e.r = 0 ∧ ∃ e1, findE own p.1 = some e1 ∧ p.2 = e1.r ∧ (p.1, e.id) ∈ ρ) ∨ (e.r = 1 ∧ p.2 = r)) := by
  intro e he p hp
  unfold backOf at hp
  split at hp
  ·rename_i h0
   split at hp
   ·rename_i i hi
    split at hp
    ·rename_i e1 he1
     simp only [Option.some.injEq] at hp
     subst hp
     have := lookR_mem hi
     exact ⟨List.mem_append_left _ this, .inl ⟨h0, e1, he1, rfl, this⟩⟩
    ·simp at hp
   ·simp at hp
  ·split at hp
   ·rename_i h1
    split at hp
    ·rename_i i hi
     simp only [Option.some.injEq] at hp
     subst hp
     exact ⟨lookR_mem hi, .inr ⟨h1, rfl⟩⟩
    ·simp at hp
   ·simp at hp
 have hlp : ∀ e ∈ own0', ∀ p, backOf own ρ ν r e.id e.r = some p → locB loc0' loc (ρ ++ ν) p.1 = loc0' e.id := fun e he p hp => locB_mem hid.1 (hφ e he p hp).1
 have hotl : hotOf l (locB loc0' loc (ρ ++ ν)) = hotOf own0' loc0' := backE_hot hout hlp
 have hotf : hotOf (frameE own ((ρ ++ ν).map (·.1))) (locB loc0' loc (ρ ++ ν)) = hotOf (frameE own ((ρ ++ ν).map (·.1))) loc := by
  unfold hotOf
  have : ∀ e ∈ frameE own ((ρ ++ ν).map (·.1)), (locB loc0' loc (ρ ++ ν) e.id).blks = (loc e.id).blks := fun e he => by rw [locB_not (mem_frameE.1 he).2]
  generalize frameE own ((ρ ++ ν).map (·.1)) = fr at this
  induction fr with
  | nil => rfl
  | cons a t ih =>
   rw [List.flatMap_cons, List.flatMap_cons, this a List.mem_cons_self, ih (fun e he => this e (List.mem_cons_of_mem _ he))]
 have hot' : hotOf (frameE own ((ρ ++ ν).map (·.1)) ++ l) (locB loc0' loc (ρ ++ ν)) = hotOf (frameE own ((ρ ++ ν).map (·.1))) loc ++ hotOf own0' loc0' := by
  rw [← hotl, ← hotf]; simp [hotOf]
 have hM' : ∀ b, b ∈ hotOf (frameE own ((ρ ++ ν).map (·.1))) loc ++ hotOf own0' loc0' ++ M ↔ b ∈ hotOf own0' loc0' ++ (hotOf (frameE own ((ρ ++ ν).map (·.1))) loc ++ M) := by
  intro b; simp only [List.mem_append]; constructor
  ·intro h; rcases h with (h | h) | h
   ·exact .inr (.inl h)
   ·exact .inl h
   ·exact .inr (.inr h)
  ·intro h; rcases h with h | h | h
   ·exact .inl (.inr h)
   ·exact .inl (.inl h)
   ·exact .inr h
 have hfid : ∀ x ∈ l, x.id ∈ (ρ ++ ν).map (·.1) := by
  intro x hx
  obtain ⟨e, he, p, hp, rfl⟩ := backE_mem hout x hx
  exact List.mem_map_of_mem (f := (·.1)) (hφ e he p hp).1
 have W1 : Weak (curOf own0' loc0') (curOf (frameE own ((ρ ++ ν).map (·.1)) ++ l) (locB loc0' loc (ρ ++ ν))) (hotOf own0' loc0' ++ (hotOf (frameE own ((ρ ++ ν).map (·.1))) loc ++ M)) (hotOf (frameE own ((ρ ++ ν).map (·.1)) ++ l) (locB loc0' loc (ρ ++ ν)) ++ M) w'.heap w'.heap 0 :=
  ⟨fun id r l hr => by omega, fun b o _ (_ : isD o = true) ho => ho, fun b o hb (_ : isD o = true) _ hm => hb (by rw [hot'] at hm; exact (hM' b).1 hm)⟩
 have L1 : Leads (curOf own0' loc0') (curOf (frameE own ((ρ ++ ν).map (·.1)) ++ l) (locB loc0' loc (ρ ++ ν))) (backOf own ρ ν r) := by
  intro j v p lc hp hl
  obtain ⟨x, hx, g1, g2, g3⟩ := curOf_some hl
  have hpj : (p.1, j) ∈ ρ ++ ν ∧ ((v = 0 ∧ ∃ e1, findE own p.1 = some e1 ∧ p.2 = e1.r) ∨ (v = 1 ∧ p.2 = r)) := by
   unfold backOf at hp
   split at hp
   ·rename_i h0
    split at hp
    ·rename_i i hi
     split at hp
     ·rename_i e1 he1
      simp only [Option.some.injEq] at hp
      subst hp
      exact ⟨List.mem_append_left _ (lookR_mem hi), .inl ⟨h0, e1, he1, rfl⟩⟩
     ·simp at hp
    ·simp at hp
   ·split at hp
    ·rename_i h1
     split at hp
     ·rename_i i hi
      simp only [Option.some.injEq] at hp
      subst hp
      exact ⟨lookR_mem hi, .inr ⟨h1, rfl⟩⟩
     ·simp at hp
    ·simp at hp
  have hpi : p.1 ∈ (ρ ++ ν).map (·.1) := List.mem_map_of_mem (f := (·.1)) hpj.1
  rcases List.mem_append.1 hx with hx | hx
  ·exact absurd (g1 ▸ hpi) (mem_frameE.1 hx).2
  ·obtain ⟨e, he, q, hq, rfl⟩ := backE_mem hout x hx
   simp only at g1 g2
   obtain ⟨q1, q2⟩ := hφ e he q hq
   have hej : e.id = j := fst_inj hid.1 (by rw [← g1]; exact q1) hpj.1
   subst hej
   have hev : e.r = v := by
    rcases q2 with ⟨a1, e1, a2, a3, _⟩ | ⟨a1, a2⟩ <;> rcases hpj.2 with ⟨b1, e2, b2, b3⟩ | ⟨b1, b2⟩
    ·omega
    ·exfalso
     have := (mem_mxE (findE_mem a2).1).1
     omega
    ·exfalso
     have := (mem_mxE (findE_mem b2).1).1
     omega
    ·omega
   subst hev
   rw [curOf_self S1.nd he, g3, ← g1, locB_mem hid.1 q1]
 have hkeep : ∀ e ∈ frameE own ((ρ ++ ν).map (·.1)), ∀ b o, b ∈ (loc e.id).blks → w.heap[b]? = some o → w'.heap[b]? = some o := by
  intro e he b o hb ho
  have hbf : b ∈ hotOf (frameE own ((ρ ++ ν).map (·.1))) loc := mem_hot he hb
  rw [hu.blk b (Array.getElem?_eq_some_iff.1 ho).1 (fun h => hdis b h hbf)]
  exact ho
 have W2 : Weak (curOf own loc) (curOf (frameE own ((ρ ++ ν).map (·.1)) ++ l) (locB loc0' loc (ρ ++ ν))) (hotOf own loc ++ M) (hotOf (frameE own ((ρ ++ ν).map (·.1)) ++ l) (locB loc0' loc (ρ ++ ν)) ++ M) w.heap w'.heap r := by
  refine ⟨?_, ?_, ?_⟩
  ·intro id v lc hv hl
   obtain ⟨x, hx, rfl, rfl, rfl⟩ := curOf_some hl
   rcases List.mem_append.1 hx with hx | hx
   ·have := mem_frameE.1 hx
    rw [curOf_self S.nd this.1, locB_not this.2]
   ·obtain ⟨e, he, q, hq, rfl⟩ := backE_mem hout x hx
    simp only at hv ⊢
    obtain ⟨q1, q2⟩ := hφ e he q hq
    rcases q2 with ⟨a1, e1, a2, a3, a4⟩ | ⟨a1, a2⟩
    ·have h1 := hver e he (by omega)
     obtain ⟨x0, k1, k2, k3, k4⟩ := curOf_some h1
     obtain ⟨m1, m2⟩ := findE_mem a2
     rw [locB_mem hid.1 q1, k4, hloc0 _ _ a4, a3, ← m2, curOf_self S.nd m1]
    ·omega
  ·intro b o hb (_ : isD o = true) ho
   rw [hu.blk b (Array.getElem?_eq_some_iff.1 ho).1 (fun h => hb (List.mem_append_left _ (hin0 b h)))]
   exact ho
  ·intro b o hb (_ : isD o = true) ho hm
   rw [hot'] at hm
   have hlt := (Array.getElem?_eq_some_iff.1 ho).1
   simp only [List.mem_append] at hm hb
   rcases hm with (hm | hm) | hm
   ·exact hb (.inl (hfr b hm))
   ·rcases hnew b hm with h | h
    ·exact hb (.inl (hin0 b h))
    ·omega
   ·exact hb (.inr hm)
 refine ⟨locB loc0' loc (ρ ++ ν), ⟨hnd, ?_, ?_, ?_, ?_⟩, ?_, ?_, ?_, ?_⟩
 ·rw [hot', List.nodup_append]
  refine ⟨(hot_nodup_sub S.bl _ ?_ (fun e he => (mem_frameE.1 he).1)), S1.bl, ?_⟩
  ·exact ((frameE_sub own _).map _).nodup S.nd
  ·intro b hb b' hb' hbb
   subst hbb
   exact S1.ap b hb' (List.mem_append_left _ hb)
 ·intro b hb hm
  rw [hot'] at hb
  rcases List.mem_append.1 hb with hb | hb
  ·exact S.ap b (hfr b hb) hm
  ·exact S1.ap b hb (List.mem_append_right _ hm)
 ·intro b hb
  rw [hot'] at hb
  exact S1.lt b ((hM' b).1 hb)
 ·intro x hx
  rcases List.mem_append.1 hx with hx | hx
  ·have hm := mem_frameE.1 hx
   have := ObjOK_weak W2 (Nat.le_trans (mem_mxE hm.1).2 hmx) (hkeep x hx) (S.ok x hm.1)
   rwa [locB_not hm.2]
  ·obtain ⟨e, he, q, hq, rfl⟩ := backE_mem hout x hx
   exact ObjOK_ren W1 L1 (okOs_mem hokO e he) (hlp e he q hq) (fun b o _ ho => ho) (S1.ok e he)
 ·refine ⟨hu.os, hu.tape, hu.output, hu.drawn, hu.size, fun b hb hn => hu.blk b hb fun h => hn (hin0 b h)⟩
 ·intro b hb
  rw [hot'] at hb
  rcases List.mem_append.1 hb with hb | hb
  ·exact .inl (hfr b hb)
  ·rcases hnew b hb with h | h
   ·exact .inl (hin0 b h)
   ·exact .inr h
 ·intro x hx hlt
  exact W2.c x.id x.r _ hlt (curOf_self hnd hx)
 ·exact rd_renD W1 L1 hokd hrd
theorem SpecAt_of_DSpec {P : Program} {f : Fn} {args args0 : List DVal} {own own0 own0' l : List Ent} {d0 : DVal} {r : Nat} (ρ ν : List (Nat × Nat)) (hS : DSpec P f args0 own0 d0 own0')
  (hin : outE own (phiOf own (inRho ρ)) (inRho ρ) = some own0) (hok : inOK own ρ) (hargs : okDs args ∧ wkA (args.map (renD (phiOf own (inRho ρ)))) args0)
  (hid : ((ρ ++ ν).map (·.1)).Nodup ∧ (ρ.map (·.2)).Nodup) (hout : backE (backOf own ρ ν r) own0' = some l) (hokO : okOs own0') (hokd : okD d0) (hnd : ((frameE own ((ρ ++ ν).map (·.1)) ++ l).map (·.id)).Nodup) :
  SpecAt P f args own r (renD (backOf own ρ ν r) d0) (frameE own ((ρ ++ ν).map (·.1)) ++ l) := by
 have hb2 : mxE own ≤ r → ∀ i v p, backOf own ρ ν r i v = some p → p.2 ≤ r := by
  intro hmx i v p hp
  unfold backOf at hp
  split at hp
  ·split at hp
   ·split at hp
    ·rename_i e he
     simp only [Option.some.injEq] at hp
     subst hp
     have := (mem_mxE (findE_mem he).1).1
     simp only; omega
    ·simp at hp
   ·simp at hp
  ·split at hp
   ·split at hp
    ·simp only [Option.some.injEq] at hp
     subst hp; exact Nat.le_refl _
    ·simp at hp
   ·simp at hp
 refine ⟨hS.2.1, hnd, fun hmx => ⟨mx_renD (hb2 hmx) hokd, mxE_le fun e he => ?_⟩, ?_⟩
 ·rcases List.mem_append.1 he with he | he
  ·have := mem_mxE (mem_frameE.1 he).1
   omega
  ·obtain ⟨e0, h0, p, hp, rfl⟩ := backE_mem hout e he
   exact ⟨by have := hb2 hmx _ _ _ hp; simp only; omega, mxO_renO (hb2 hmx) (okOs_mem hokO e0 h0)⟩
 exact SpecC_of (C := FCalls P f) (fun vs w R R' h hc => hc.mono h) ρ ν (fun M w loc vs S hr => hS.2.2 M w loc vs S hr) hin hok hargs hid hout hokO hokd hnd
end Go.Dm
end
