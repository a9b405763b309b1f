/- Parts of a proof, laid together: EnN, EnO, EnP, EvJ. -/
import Derived.Test.YtedjakmhhlilaaaGreatqGx9
import Derived.Test.YtedjakmhhlilaaaGreatqGx13
set_option linter.unusedSimpArgs false
set_option linter.unusedVariables false
set_option linter.unusedSectionVars false
section
namespace Go.Dm
variable [DMode]
def frz1 (id r : Nat) (obj : DObj) : DVal → DVal
 | .osl id' r' => if id' = id ∧ r' = r then (match obj with | .row _ k bs es => .sl k bs es | _ => .osl id' r') else .osl id' r'
 | .bx id' r' off => if id' = id ∧ r' = r then (match obj with | .box cs => .ref (cs.drop off) | _ => .bx id' r' off) else .bx id' r' off
 | .vw id' r' k i0 i n => if id' = id ∧ r' = r then (match obj with | .row _ k' bs es => if k' = k ∧ i + n ≤ es.length then .sl k bs ((es.drop i).take n) else .any | _ => .any) else .vw id' r' k i0 i n
 | .omp id' r' => if id' = id ∧ r' = r then (match obj with | .map ks vs => .mp ks vs | _ => .omp id' r') else .omp id' r'
 | d => d
def frz2 (id r : Nat) (obj : DObj) : DVal → DVal
 | .fn f us cs => .fn f us (cs.map (frz1 id r obj))
 | d => frz1 id r obj d
def frzD (id r : Nat) (obj : DObj) : DVal → DVal
 | .agg cs => .agg (cs.map (frz2 id r obj))
 | d => frz2 id r obj d
def frzO (id r : Nat) (obj : DObj) : DObj → DObj
 | .box cs => .box (cs.map (frz2 id r obj))
 | o => o
def frzE (id r : Nat) (obj : DObj) (own : List Ent) : List Ent := own.map fun e => ⟨e.id, e.r, frzO id r obj e.obj⟩
def mapS (f : DVal → DVal) (l : List (Nat × DVal)) : List (Nat × DVal) := l.map fun p => (p.1, f p.2)
def freezeS (s : DS) (id : Nat) : DS := match findE s.own id with
 | some e => ⟨mapS (frzD id e.r e.obj) s.slots, frzE id e.r e.obj (delE s.own id)⟩
 | none => s
def freezeL (s : DS) : List Nat → DS
 | [] => s
 | id :: ids => freezeL (freezeS s id) ids
theorem getS_mapS (f : DVal → DVal) (hf : f .any = .any) : ∀ (l : List (Nat × DVal)) (i : Nat), getS (mapS f l) i = f (getS l i)
 | [], i => by simp [mapS, getS, hf]
 | (j, d) :: l, i => by
  have := getS_mapS f hf l i
  simp only [mapS, List.map_cons, getS] at this ⊢
  split
  ·rfl
  ·exact this
@[simp] theorem getS_frz (id r : Nat) (obj : DObj) (l : List (Nat × DVal)) (i : Nat) : getS (mapS (frzD id r obj) l) i = frzD id r obj (getS l i) := getS_mapS _ rfl _ _
section
variable {B : Base} {s : DS} {a : Act} {w : World} {loc : Nat → Loc}
theorem findE_map (f : Ent → Ent) (hid : ∀ e, (f e).id = e.id) : ∀ (own : List Ent) (id : Nat), findE (own.map f) id = (findE own id).map f
 | [], id => rfl
 | e :: t, id => by
  simp only [List.map_cons, findE, hid]
  split
  ·rfl
  ·exact findE_map f hid t id
theorem curOf_frzE (id r : Nat) (obj : DObj) (own : List Ent) (loc : Nat → Loc) : curOf (frzE id r obj own) loc = curOf own loc := by
 funext i k
 unfold curOf frzE
 rw [findE_map (fun e => ⟨e.id, e.r, frzO id r obj e.obj⟩) (fun _ => rfl)]
 cases findE own i <;> rfl
theorem hotOf_frzE (id r : Nat) (obj : DObj) (own : List Ent) (loc : Nat → Loc) : hotOf (frzE id r obj own) loc = hotOf own loc := by
 unfold hotOf frzE
 induction own with
 | nil => rfl
 | cons e t ih =>
  rw [List.map_cons, List.flatMap_cons, List.flatMap_cons, ih]
theorem Rel.freeze {id : Nat} {e : Ent} (R : Rel B s a w loc) (he : findE s.own id = some e) : Rel B ⟨mapS (frzD id e.r e.obj) s.slots, frzE id e.r e.obj (delE s.own id)⟩ a w loc := by
 obtain ⟨hmem, hid⟩ := findE_mem he
 have hsub : ∀ x ∈ delE s.own id, x ∈ s.own := fun x hx => (mem_delE.1 hx).1
 have hhot : ∀ b ∈ hotOf (delE s.own id) loc, b ∈ hotOf s.own loc := by
  intro b hb
  obtain ⟨x, hx, h1⟩ := List.mem_flatMap.1 hb
  exact List.mem_flatMap.2 ⟨x, hsub x hx, h1⟩
 have hcur : ∀ i r l, curOf (delE s.own id) loc i r = some l → curOf s.own loc i r = some l := by
  intro i r l h
  obtain ⟨x, hx, rfl, rfl, rfl⟩ := curOf_some h
  exact curOf_self R.st.nd (hsub x hx)
 have W : ∀ n, Weak (curOf s.own loc) (curOf (delE s.own id) loc) (hotOf s.own loc ++ B.M0) (hotOf (delE s.own id) loc ++ B.M0) w.heap w.heap n := fun n =>
  ⟨fun id r l _ hl => hcur id r l hl, fun b o _ (_ : isD o = true) ho => ho, fun b o hb (_ : isD o = true) _ hm' => hb (by
   rcases List.mem_append.1 hm' with h | h
   ·exact List.mem_append_left _ (hhot b h)
   ·exact List.mem_append_right _ h)⟩
 have hself : curOf s.own loc id e.r = some (loc id) := by rw [← hid]; exact curOf_self R.st.nd hmem
 have hout : ∀ b, b ∈ (loc e.id).blks → b ∉ hotOf (delE s.own id) loc ++ B.M0 := by
  intro b hb hm'
  rcases List.mem_append.1 hm' with h | h
  ·obtain ⟨x, hx, hne, h1⟩ := hot_sub h
   have := hot_inj R.st.bl x hx e hmem b h1 hb
   subst this
   exact hne hid
  ·exact R.st.ap b (mem_hot hmem hb) h
 have hobj := R.st.ok e hmem
 have k1 : ∀ d v, rd (curOf s.own loc) (hotOf s.own loc ++ B.M0) w.heap d v → rd (curOf (delE s.own id) loc) (hotOf (delE s.own id) loc ++ B.M0) w.heap (frz1 id e.r e.obj d) v := by
  intro d v h
  have hw := rd_weak (W _) d v (Nat.le_refl _) h
  cases d <;> simp only [frz1] <;> try exact hw
  ·split
   ·rename_i hc
    obtain ⟨rfl, rfl⟩ := hc
    cases hob : e.obj with
    | row et k bs es => exact hw
    | map ks vs => exact hw
    | abs A => exact hw
    | lrec => exact hw
    | glob => exact hw
    | mapD => exact hw
    | box cs =>
     rw [hob] at hobj
     obtain ⟨b, arr, ty, h1, h2, h3, h4⟩ := hobj
     simp only [rd] at h
     obtain ⟨b', hb', hv⟩ := h _ hself
     rw [← hid, h1] at hb'
     simp only [List.cons.injEq, and_true] at hb'
     subst hb'
     simp only [rd]
     refine ⟨b, _, arr, ty, (0, 0), hv, hout b (by rw [h1]; simp), h2, ?_⟩
     have := fun n => rdC_drop n cs arr 0 (rdC_weak (W _) cs arr 0 (Nat.le_refl _) h4)
     simpa using this _
   ·exact hw
  ·split
   ·rename_i hc
    obtain ⟨rfl, rfl⟩ := hc
    cases hob : e.obj with
    | box cs => exact hw
    | map ks vs => exact hw
    | abs A => exact hw
    | lrec => exact hw
    | glob => exact hw
    | mapD => exact hw
    | row et k bs es =>
     rw [hob] at hobj
     obtain ⟨hbs, hobj⟩ := hobj
     simp only [rd] at h
     have hv := h _ hself
     rw [← hid] at hv
     simp only [rd]
     rcases hobj with ⟨rfl, _, h2⟩ | ⟨b, arr, cap, h1, h2, h3, h4, h5, h6, h7⟩
     ·exact ⟨none, 0, by rw [hv, h2]; rfl, by simp, by unfold maxLen; omega, by simp, .inl ⟨rfl, fun _ => rfl⟩⟩
     ·exact ⟨_, cap, by rw [hv, h2], h4, h5, hbs, .inr ⟨b, 0, arr, et, (0, 0), rfl, hout b (by rw [h1]; simp), h3, rdR_weak (W _) k es arr 0 (Nat.le_refl _) h7⟩⟩
   ·exact hw
  ·rename_i id' r' k0 bs0 i n
   split
   ·rename_i hc
    obtain ⟨rfl, rfl⟩ := hc
    cases hob : e.obj with
    | box cs => simp [rd]
    | map ks vs => simp [rd]
    | abs A => simp [rd]
    | lrec => simp [rd]
    | glob => simp [rd]
    | mapD => simp [rd]
    | row et k bs es =>
     simp only
     split
     ·rename_i hb
      obtain ⟨rfl, hb⟩ := hb
      rw [hob] at hobj
      obtain ⟨hbs, hobj⟩ := hobj
      simp only [rd] at h
      obtain ⟨a, cap, rfl, g1, g2, g3, g4, _⟩ := h _ hself
      have hlen : ((es.drop i).take n).length = n := by simp; omega
      simp only [rd]
      refine ⟨a, cap, by rw [hlen], by omega, g2, by rw [hlen]; exact Nat.le_trans (Nat.mul_le_mul_right _ (by omega : n ≤ es.length)) hbs, ?_⟩
      by_cases h0 : n = 0
      ·subst h0; exact .inl ⟨by simp, g3⟩
      ·obtain ⟨b, hb1, rfl⟩ := g4 (by omega)
       rw [← hid] at hb1
       rcases hobj with ⟨rfl, _⟩ | ⟨b', arr, cap', h1, h2, h3, h4, h5, h6, h7⟩
       ·simp at hb; omega
       ·rw [h1] at hb1
        simp only [List.cons.injEq, and_true] at hb1
        subst hb1
        refine .inr ⟨b', i * k, arr, et, (0, 0), rfl, hout b' (by rw [h1]; simp), h3, rdR_mk _ _ _ _ fun q cs hq => ?_⟩
        rw [List.getElem?_take] at hq
        split at hq
        ·rw [List.getElem?_drop] at hq
         have := rdR_at k es arr 0 (i + q) cs (rdR_weak (W _) k es arr 0 (Nat.le_refl _) h7) hq
         rwa [Nat.add_mul, Nat.zero_add] at this
        ·simp at hq
     ·simp [rd]
   ·exact hw
  ·split
   ·rename_i hc
    obtain ⟨rfl, rfl⟩ := hc
    cases hob : e.obj with
    | box cs => exact hw
    | row et k bs es => exact hw
    | abs A => exact hw
    | lrec => exact hw
    | glob => exact hw
    | mapD => exact hw
    | map ks vs =>
     rw [hob] at hobj
     obtain ⟨b, es, clk, h1, h2, h3, h4, h5⟩ := hobj
     simp only [rd] at h
     obtain ⟨b', hb', hv⟩ := h _ hself
     rw [← hid, h1] at hb'
     simp only [List.cons.injEq, and_true] at hb'
     subst hb'
     simp only [rd]
     exact ⟨b, es, clk, hv, hout b (by rw [h1]; simp), h2, h3.ok, rdV_weak (W _) ks _ (Nat.le_refl _) h4, rdV_weak (W _) vs _ (Nat.le_refl _) h5⟩
   ·exact hw
 have kV : ∀ (f : DVal → DVal), (∀ d v, rd (curOf s.own loc) (hotOf s.own loc ++ B.M0) w.heap d v → rd (curOf (delE s.own id) loc) (hotOf (delE s.own id) loc ++ B.M0) w.heap (f d) v) →
   ∀ ds vs, rdV (curOf s.own loc) (hotOf s.own loc ++ B.M0) w.heap ds vs → rdV (curOf (delE s.own id) loc) (hotOf (delE s.own id) loc ++ B.M0) w.heap (ds.map f) vs := by
  intro f hf ds
  induction ds with
  | nil => intro vs h; simpa [rdV] using h
  | cons d ds ih =>
   intro vs h
   simp only [rdV] at h
   obtain ⟨v, r, rfl, h1, h2⟩ := h
   simp only [List.map_cons, rdV]
   exact ⟨v, r, rfl, hf d v h1, ih r h2⟩
 have k2 : ∀ d v, rd (curOf s.own loc) (hotOf s.own loc ++ B.M0) w.heap d v → rd (curOf (delE s.own id) loc) (hotOf (delE s.own id) loc ++ B.M0) w.heap (frz2 id e.r e.obj d) v := by
  intro d v h
  cases d <;> simp only [frz2] <;> try exact k1 _ v h
  rename_i f us cs
  simp only [rd] at h ⊢
  obtain ⟨us', cs', h1, h2, h3⟩ := h
  exact ⟨us', cs', h1, rdV_weak (W _) us _ (Nat.le_refl _) h2, kV _ k1 cs _ h3⟩
 have k3 : ∀ d v, rd (curOf s.own loc) (hotOf s.own loc ++ B.M0) w.heap d v → rd (curOf (delE s.own id) loc) (hotOf (delE s.own id) loc ++ B.M0) w.heap (frzD id e.r e.obj d) v := by
  intro d v h
  cases d <;> simp only [frzD] <;> try exact k2 _ v h
  rename_i cs
  simp only [rd] at h ⊢
  obtain ⟨us, h1, h2⟩ := h
  exact ⟨us, h1, kV _ k2 cs _ h2⟩
 have kC : ∀ (ds : List DVal) (arr : Array Value) (o : Nat), rdC (curOf s.own loc) (hotOf s.own loc ++ B.M0) w.heap ds arr o → rdC (curOf (delE s.own id) loc) (hotOf (delE s.own id) loc ++ B.M0) w.heap (ds.map (frz2 id e.r e.obj)) arr o := by
  intro ds
  induction ds with
  | nil => intro arr o _; simp [rdC]
  | cons d ds ih =>
   intro arr o h
   simp only [rdC, List.map_cons] at h ⊢
   obtain ⟨⟨v, h1, h1', h2⟩, h3⟩ := h
   exact ⟨⟨v, h1, h1', k2 d v h2⟩, ih arr _ h3⟩
 refine ⟨⟨?_, ?_, ?_, ?_, ?_⟩, R.upd, ?_, ?_, ?_, R.nt, R.df.keep rfl (Upd.refl [] w) (by simp) (fun b hb => .inl (by
  simp only [hotOf_frzE] at hb
  rcases List.mem_append.1 hb with h | h
  ·exact List.mem_append_left _ (hhot b h)
  ·exact List.mem_append_right _ h))⟩
 ·simp only [frzE, List.map_map]
  exact nodup_delE R.st.nd
 ·simp only [hotOf_frzE]; exact hot_nodup_sub R.st.bl _ (nodup_delE R.st.nd) hsub
 ·simp only [hotOf_frzE]; exact fun b hb => R.st.ap b (hhot b hb)
 ·simp only [hotOf_frzE]
  intro b hb
  rcases List.mem_append.1 hb with h | h
  ·exact R.st.lt b (List.mem_append_left _ (hhot b h))
  ·exact R.st.lt b (List.mem_append_right _ h)
 ·intro x hx
  simp only [hotOf_frzE, curOf_frzE]
  obtain ⟨y, hy, rfl⟩ := List.mem_map.1 hx
  have hk := R.st.ok y (hsub y hy)
  simp only
  cases hob : y.obj with
  | box cs =>
   rw [hob] at hk
   obtain ⟨b, arr, ty, h1, h2, h3, h4⟩ := hk
   exact ⟨b, arr, ty, h1, h2, by simp [h3], kC cs arr 0 h4⟩
  | row et k bs es => rw [hob] at hk; exact ObjOK_weak (W (mxO (.row et k bs es))) (Nat.le_refl _) (fun _ _ _ h => h) hk
  | map ks vs => rw [hob] at hk; exact ObjOK_weak (W (mxO (.map ks vs))) (Nat.le_refl _) (fun _ _ _ h => h) hk
  | abs A => rw [hob] at hk; exact ObjOK_weak (W (mxO (.abs A))) (Nat.le_refl _) (fun _ _ _ h => h) hk
  | mapD => rw [hob] at hk; exact ObjOK_weak (W (mxO _)) (Nat.le_refl _) (fun _ _ _ h => h) hk
  | lrec => rw [hob] at hk; exact ObjOK_weak (W (mxO _)) (Nat.le_refl _) (fun _ _ _ h => h) hk
  | glob => rw [hob] at hk; exact ObjOK_weak (W (mxO _)) (Nat.le_refl _) (fun _ _ _ h => h) hk
 ·simp only [hotOf_frzE]; exact fun b hb => R.new b (hhot b hb)
 ·intro x hx hr
  obtain ⟨y, hy, rfl⟩ := List.mem_map.1 hx
  exact R.ver y (hsub y hy) hr
 ·intro i
  simp only [hotOf_frzE, curOf_frzE, getS_frz]
  exact k3 _ _ (R.sl i)
theorem Sub.refl (s : DS) : Sub B s s := fun _ _ loc R => ⟨loc, R⟩
theorem Sub.trans {s' s'' : DS} (h : Sub B s s') (k : Sub B s' s'') : Sub B s s'' := fun a w loc R =>
 let ⟨loc', R'⟩ := h a w loc R; k a w loc' R'
theorem Sub.freezeS (s : DS) (id : Nat) : Sub B s (freezeS s id) := by
 intro a w loc R
 unfold Dm.freezeS
 split
 ·rename_i e he; exact ⟨loc, R.freeze he⟩
 ·exact ⟨loc, R⟩
theorem Sub.freezeL : ∀ (ids : List Nat) (s : DS), Sub B s (freezeL s ids)
 | [], s => Sub.refl s
 | id :: ids, s => (Sub.freezeS s id).trans (Sub.freezeL ids _)
variable {P : Program}
structure RAnn where
 id : Nat
 fz : List Nat
 l1 : List Nat
 l2 : List Nat
def kQ (Q : Exit → DS → Prop) (fz : List Nat) : Cont := ⟨fun s' => Q .normal (freezeL s' fz)⟩
theorem kQ_f (Q : Exit → DS → Prop) (fz : List Nat) (s' : DS) : (kQ Q fz).f s' = Q .normal (freezeL s' fz) := id rfl
def annAt : List RAnn → Nat → RAnn
 | [], id => ⟨id, [], [], []⟩
 | a :: r, id => if a.id = id then a else annAt r id
structure Ann where
 ow : List Nat
 rs : List RAnn
end
def DretF (P : Program) (fn : Func) (ids : List Nat) (d : DVal) : Exit → DS → Prop
 | .normal, s => match resD P (freezeL s ids) fn.results.toList with | some d0 => wk d0 d | none => False
 | .ret, s => match resD P (freezeL s ids) fn.results.toList with | some d0 => wk d0 d | none => False
 | _, _ => False
theorem DPure.wk {P : Program} {f : FuncId} {args : List DVal} {d d' : DVal} (h : DPure P f args d) (hw : wk d d') (hd : mx d' = 0) : DPure P f args d' :=
 ⟨h.1, hd, fun cur M w vs hM hr => (h.2.2 cur M w vs hM hr).mono fun e w' ⟨v, h1, h2, h3⟩ => ⟨v, h1, h2, rd_wk hw h3⟩⟩
def DretS (P : Program) (fn : Func) (ids : List Nat) (ρ : List (Nat × Nat × Nat)) (d : DVal) (own' : List Ent) : Exit → DS → Prop
 | .normal, s => match resD P (freezeL s ids) fn.results.toList with
  | some d0 => okD d0 ∧ wk (renD (phiOf (freezeL s ids).own ρ) d0) d ∧ outE (freezeL s ids).own (phiOf (freezeL s ids).own ρ) ρ = some own' ∧ outOK (freezeL s ids).own ρ
  | none => False
 | .ret, s => match resD P (freezeL s ids) fn.results.toList with
  | some d0 => okD d0 ∧ wk (renD (phiOf (freezeL s ids).own ρ) d0) d ∧ outE (freezeL s ids).own (phiOf (freezeL s ids).own ρ) ρ = some own' ∧ outOK (freezeL s ids).own ρ
  | none => False
 | _, _ => False
section
variable {B : Base} {s : DS} {a : Act} {w : World} {loc : Nat → Loc}
end
theorem hot_nodup_ids {own : List Ent} {loc : Nat → Loc} (hn : (hotOf own loc).Nodup) : ∀ l : List Ent, (l.map (·.id)).Nodup → (∀ e ∈ l, ∃ e0 ∈ own, e0.id = e.id) → (hotOf l loc).Nodup
 | [], _, _ => by simp [hotOf]
 | e :: l, hd, hm => by
  simp only [List.map_cons, List.nodup_cons] at hd
  rw [hot_cons, List.nodup_append]
  obtain ⟨e0, he0, hid0⟩ := hm e List.mem_cons_self
  refine ⟨by rw [← hid0]; exact blks_nodup hn e0 he0, hot_nodup_ids hn l hd.2 (fun x hx => hm x (List.mem_cons_of_mem _ hx)), ?_⟩
  intro b hb b' hb' hbb
  subst hbb
  obtain ⟨e2, he2, hb2⟩ := List.mem_flatMap.1 hb'
  obtain ⟨e3, he3, hid3⟩ := hm e2 (List.mem_cons_of_mem _ he2)
  have := hot_inj hn e0 he0 e3 he3 b (by rw [hid0]; exact hb) (by rw [hid3]; exact hb2)
  subst this
  exact hd.1 (List.mem_map.2 ⟨e2, he2, by rw [← hid3, hid0]⟩)
def idRho (own : List Ent) : List (Nat × Nat × Nat) := own.map fun e => (e.id, e.id, e.r)
def slotOK (φ : Nat → Nat → Option (Nat × Nat)) (emp : Bool) (d d' : DVal) : Prop := match d' with
 | .any => True
 | d' => if emp then d = d' else okD d ∧ renD φ d = d'
def slotsOK (φ : Nat → Nat → Option (Nat × Nat)) (emp : Bool) (l : List (Nat × DVal)) : List (Nat × DVal) → Prop
 | [] => True
 | p :: ps => slotOK φ emp (getS l p.1) p.2 ∧ slotsOK φ emp l ps
theorem idRho_mem {own : List Ent} {i j v : Nat} (h : (i, j, v) ∈ idRho own) : i = j ∧ ∃ e ∈ own, e.id = j ∧ e.r = v := by
 obtain ⟨e, he, h1⟩ := List.mem_map.1 h
 simp only [Prod.mk.injEq] at h1
 obtain ⟨rfl, rfl, rfl⟩ := h1
 exact ⟨rfl, e, he, rfl, rfl⟩
theorem Sub.lit {B : BaseN} {s s' : DS} (h : slotsOK (phiOf s.own (idRho s'.own)) s'.own.isEmpty s.slots s'.slots ∧ outE s.own (phiOf s.own (idRho s'.own)) (idRho s'.own) = some s'.own ∧ outOK s.own (idRho s'.own) ∧ (s'.own.map (·.id)).Nodup) : Sub B s s' := by
 obtain ⟨hs, ho, hk, nd⟩ := h
 intro a w loc R
 refine ⟨loc, ?_⟩
 have horig : ∀ e' ∈ s'.own, ∃ e, findE s.own e'.id = some e ∧ okO e.obj ∧ e'.obj = renO (phiOf s.own (idRho s'.own)) e.obj ∧ (e'.r = 1 ∨ (e'.r = 0 ∧ e.r = 0)) := by
  intro e' he'
  obtain ⟨i, j, v, e, h1, h2, h3⟩ := (outE_mem ho).1 e' he'
  obtain ⟨hij, _⟩ := idRho_mem h1
  subst hij
  obtain ⟨e2, g1, g2, g3⟩ := outOK_mem hk i i v h1
  rw [h2] at g1
  simp only [Option.some.injEq] at g1
  subst g1
  have e1 : e'.id = i := by rw [h3]
  have e3 : e'.r = v := by rw [h3]
  have e4 : e'.obj = renO (phiOf s.own (idRho s'.own)) e.obj := by rw [h3]
  refine ⟨e, by rw [e1]; exact h2, g2, e4, ?_⟩
  rw [e3]
  rcases g3 with g3 | g3
  ·exact .inl g3
  ·exact .inr ⟨g3.1, g3.2.2⟩
 have hids : ∀ e' ∈ s'.own, ∃ e0 ∈ s.own, e0.id = e'.id := by
  intro e' he'
  obtain ⟨e, h1, _⟩ := horig e' he'
  obtain ⟨h2, h3⟩ := findE_mem h1
  exact ⟨e, h2, h3⟩
 have hhot : ∀ b ∈ hotOf s'.own loc, b ∈ hotOf s.own loc := by
  intro b hb
  obtain ⟨e', he', h1⟩ := List.mem_flatMap.1 hb
  obtain ⟨e0, h2, h3⟩ := hids e' he'
  exact mem_hot h2 (by rw [h3]; exact h1)
 have hM : ∀ b ∈ hotOf s'.own loc ++ B.M0, b ∈ hotOf s.own loc ++ B.M0 := by
  intro b hb
  rcases List.mem_append.1 hb with h | h
  ·exact List.mem_append_left _ (hhot b h)
  ·exact List.mem_append_right _ h
 have W : Weak (cu s loc) (curOf s'.own loc) (hm s loc B.M0) (hotOf s'.own loc ++ B.M0) w.heap w.heap 0 :=
  ⟨fun id r l hr => by omega, fun b o _ (_ : isD o = true) ho => ho, fun b o hb (_ : isD o = true) _ hm' => hb (hM b hm')⟩
 have L : Leads (cu s loc) (curOf s'.own loc) (phiOf s.own (idRho s'.own)) := by
  intro i r p l hp hl
  obtain ⟨e, h1, h2, h3⟩ := phiOf_some hp
  obtain ⟨hij, _⟩ := idRho_mem h1
  obtain ⟨e', he', g1, g2, g3⟩ := curOf_some hl
  subst g3
  show curOf s.own loc i r = _
  unfold curOf
  rw [h2]
  simp [h3, hij]
 refine ⟨⟨nd, hot_nodup_ids R.st.bl _ nd hids, fun b hb => R.st.ap b (hhot b hb), fun b hb => R.st.lt b (hM b hb), fun e' he' => ?_⟩, R.upd, fun b hb => R.new b (hhot b hb), fun e' he' hr => ?_, ?_, R.nt, R.df.keep rfl (Upd.refl [] w) (by simp) (fun b hb => .inl (hM b hb))⟩
 ·obtain ⟨e, h1, h2, h3, _⟩ := horig e' he'
  obtain ⟨hmem, hid⟩ := findE_mem h1
  rw [h3]
  exact ObjOK_ren W L h2 (by rw [hid]) (fun _ _ _ h => h) (R.st.ok e hmem)
 ·obtain ⟨e, h1, _, _, h4⟩ := horig e' he'
  obtain ⟨hmem, hid⟩ := findE_mem h1
  have hN := B.hN
  rcases h4 with h4 | ⟨h4, h5⟩
  ·omega
  ·have := R.ver e hmem (by omega)
   rw [hid, h5] at this
   rw [h4]; exact this
 ·intro i
  have hall : ∀ (l : List (Nat × DVal)), slotsOK (phiOf s.own (idRho s'.own)) s'.own.isEmpty s.slots l → slotOK (phiOf s.own (idRho s'.own)) s'.own.isEmpty (getS s.slots i) (getS l i) := by
   intro l
   induction l with
   | nil => intro _; simp [slotOK, getS]
   | cons p l ih =>
    intro hp
    simp only [slotsOK] at hp
    simp only [getS]
    split
    ·rename_i h; rw [h]; exact hp.1
    ·exact ih hp.2
  have h1 := hall s'.slots hs
  have hr := R.sl i
  generalize getS s'.slots i = d' at h1
  by_cases ha : d' = .any
  ·subst ha; simp [rd]
  ·have h2 : if s'.own.isEmpty = true then getS s.slots i = d' else okD (getS s.slots i) ∧ renD (phiOf s.own (idRho s'.own)) (getS s.slots i) = d' := by
    unfold slotOK at h1
    split at h1
    ·exact absurd rfl ha
    ·exact h1
   split at h2
   ·rename_i he
    rw [h2] at hr
    have he' : s'.own = [] := by simpa using he
    exact rd_weak (n := mx d') ⟨fun id r l _ hl => by rw [he'] at hl; simp [curOf, findE] at hl, W.b, W.m⟩ _ _ (Nat.le_refl _) hr
   ·rw [← h2.2]; exact rd_renD W L h2.1 hr
def adoptC (s : DS) (n bid c id et k bs : Nat) : DS := match findE s.own bid with
 | some e => match e.obj with
  | .box cs => ⟨s.slots, upE (upE s.own id n (.row et k bs [])) bid e.r (.box (cs.set c (.osl id n)))⟩
  | _ => s
 | none => s
def adoptOK (s : DS) (bid c : Nat) : Prop := match findE s.own bid with
 | some e => match e.obj with
  | .box cs => cs.getD c .any = .nilsl
  | _ => True
 | none => True
def truncOK (s : DS) (i : Nat) : Prop := match getS s.slots i with
 | .vw id r k bs 0 n => match findE s.own id with
  | some e => match e.obj with
   | .row _ k' bs' es => e.r = r ∧ k' = k ∧ bs' = bs ∧ n ≤ es.length ∧ bs ≠ 0
   | _ => False
  | none => False
 | _ => False
def truncS (s : DS) (i m : Nat) : DS := match getS s.slots i with
 | .vw id _ _ _ _ n => match findE s.own id with
  | some e => match e.obj with
   | .row et k bs es => ⟨(i, .osl id m) :: s.slots, upE s.own id m (.row et k bs (es.take n))⟩
   | _ => s
  | none => s
 | _ => s
def wdst (o : Oper) (r : Nat) : Oper := { o with dst := o.dst.map fun _ => r }
section
variable {P : Program} {B : Base} {s : DS} {a : Act} {w : World} {loc : Nat → Loc}
theorem e_wpF {o : Oper} {r : Nat} {x : ERes} {ed : Operand → DVal} {next : Act → World → Prop} {Q : Exit → Act → World → Prop} (R : Rel B s a w loc) (hr : lim B s ≤ r) (hd : dstOK B.nt o.dst = true) (hed : ∀ x ∈ o.op.operands, Rds s loc B.M0 w (ed x) (a.eval x)) (hmd : ∀ x ∈ o.op.operands, mx (ed x) ≤ mxS s.slots) (h : eRes P (wdst o r) ed s.own r = some x) (hp : x.pre)
  (hn : ∀ a' w' loc', Rel B ⟨putS s.slots o.dst x.d, x.own⟩ a' w' loc' → next a' w') : o.wpIn (wd B.ro) 0 P a w next Q := by
 have hlim := hr
 unfold lim at hlim
 obtain ⟨dst, op, type, pos, after, guard⟩ := o
 simp only at hd hn ⊢
 unfold eRes wdst at h
 simp only at h
 cases op <;> simp only [reduceCtorEq] at h
 case box t y =>
  cases dst with
  | none => simp at h
  | some i =>
   simp only [Option.map_some, Option.some.injEq] at h
   subst h
   simp only at hp hn
   obtain ⟨h1, h2⟩ := cells_of R.st hp (hed y (by simp [Op.operands, Call.operands]))
   have := R.newBox (id := r) (n := r) (cs := cellsD (ed y)) (us := (a.eval y).cells.toList) (ty := t) (dst := some i) hr (by rw [mx_cellsD]; have := hmd y (by simp [Op.operands, Call.operands]); omega) (fun j hj => by simp only [Option.some.injEq] at hj; subst hj; simpa [dstOK] using hd) h1 h2
   have hrun : (execOp a.eval ⟨some i, .box t y, type, pos, after, guard⟩).run P w = .ok (.value (.pointer (some ⟨w.heap.size, 0, none⟩))) (w.alloc (.cells (a.eval y).cells.toList.toArray t)) := by
    simp [execOp, Instr.box, newVar, newRow]
   exact wp_val (fun c hc => by cases hc) hrun (hn _ _ _ this)
 case buildSlice t len parts =>
  cases dst with
  | none => simp at h
  | some i =>
  simp only [Option.map_some] at h
  split at h
  ·rename_i i1 k bs et hi1 ht hte
   simp only [Option.some.injEq] at hi1
   subst hi1
   simp only [Option.some.injEq] at h
   subst h
   simp only at hp hn
   simp only [nPre, ht] at hp
   obtain ⟨h1, h2, h3, h4, h5, h6, h7⟩ := hp
   have hlen : parts.toList.length = len := by have := congrArg List.length h1; simpa using this
   obtain ⟨e, us, hu, hrun, hul, hrd⟩ := run_buildSlice (P := P) (M0 := B.M0) (vs := parts.map fun p => (p.1, a.eval p.2)) R.st ht h5 h2 h3 h4 (ds := parts.toList.map fun p => ed p.2) (by rw [Array.toList_map, List.map_map]; exact h1) (by simpa using hlen) (by simpa [List.all_map, Function.comp_def] using h6) (by
    intro i d q hd hq
    simp only [List.getElem?_map, Option.map_eq_some_iff, Array.toList_map] at hd hq
    obtain ⟨a', ha, rfl⟩ := hd
    obtain ⟨b, hb, rfl⟩ := hq
    rw [ha] at hb
    simp only [Option.some.injEq] at hb
    subst hb
    exact hed a'.2 (by simpa [Op.operands] using ⟨a'.1, by simpa using List.mem_of_getElem? ha⟩)) h7
   have hee : e = et := by unfold tElemId at hte; rw [hu] at hte; simpa using hte
   subst hee
   have hL : ∀ b0, b0 ∈ (⟨[w.heap.size], .slice (some ⟨w.heap.size, 0, none⟩) len len⟩ : Loc).blks → b0 < (w.alloc (.cells us.toArray e)).heap.size ∧ ((∃ e ∈ s.own, e.id = r ∧ b0 ∈ (loc r).blks) ∨ w.heap.size ≤ b0) := by
    intro b0 hb0
    simp only [List.mem_singleton] at hb0
    subst hb0
    exact ⟨by simp, .inr (Nat.le_refl _)⟩
   have hw := Upd.alloc (hotOf s.own loc) w (.cells us.toArray e)
   have hmx : mxR (parts.toList.map fun p => cellsD (ed p.2)) ≤ r := by
    refine mxR_le' fun cs hm => ?_
    obtain ⟨p, hp, rfl⟩ := List.mem_map.1 hm
    rw [mx_cellsD]
    have := hmd p.2 (by simpa [Op.operands] using ⟨p.1, by simpa using hp⟩)
    omega
   have W := R.weakUp (obj := .row e k bs (parts.toList.map fun p => cellsD (ed p.2))) (r := r) hr hw hL (.inl (Nat.le_refl _))
   have R' := R.up (id := r) (r := r) (obj := .row e k bs (parts.toList.map fun p => cellsD (ed p.2))) (L := ⟨[w.heap.size], .slice (some ⟨w.heap.size, 0, none⟩) len len⟩) (v := .slice (some ⟨w.heap.size, 0, none⟩) len len) (d := .osl r r) (dst := some i) hr
    (fun j hj => by simp only [Option.some.injEq] at hj; subst hj; simpa [dstOK] using hd) hw (fun b hb _ => by simp only [World.alloc, Array.getElem?_push]; rw [if_neg (by omega)]) hL (.inl (Nat.le_refl _))
    ⟨by simpa [hlen] using h3, .inr ⟨w.heap.size, us.toArray, len, rfl, by simp [hlen], heap_alloc_new w _, by simp [hlen], by unfold maxLen; omega, by simp [hul], rdR_weak W k _ _ 0 hmx (by simpa [List.map_map, Function.comp_def] using hrd)⟩⟩
    (by
     simp only [rd]
     intro l hl
     rw [curOf_up] at hl
     simp only [Option.some.injEq] at hl
     rw [← hl])
   have hrun' : (execOp a.eval ⟨some i, .buildSlice t len parts, type, pos, after, guard⟩).run P w = .ok (.value (.slice (some ⟨w.heap.size, 0, none⟩) len len)) (w.alloc (.cells us.toArray e)) := by
    simp [execOp, hrun]
   exact wp_val (fun c hc => by cases hc) hrun' (hn _ _ _ R')
  ·simp at h
 case alloc t =>
  cases dst with
  | none => simp at h
  | some i =>
   simp only [Option.map_some] at h
   split at h
   ·rename_i z hi hz
    simp only [Option.some.injEq] at h hi
    subst hi; subst h
    simp only at hp hn
    obtain ⟨zv, hzr, rfl⟩ := tZero_ok (w := w) hz
    have hus : rdV (cu s loc) (hm s loc B.M0) w.heap (zv.cells.toList.map ofV1) zv.cells.toList := rdV_map_ofV1 _
    have hmx : mxL (zv.cells.toList.map ofV1) = 0 := by
     have h1 : ∀ v, mx (ofV1 v) = 0 := by
      intro v
      unfold ofV1
      split <;> (try split) <;> simp [mx]
     generalize zv.cells.toList = l
     induction l with
     | nil => simp [mxL]
     | cons v l ih => simp [mxL, h1, ih]
    have hone := oneO_all R.st (zv.cells.toList.map ofV1) zv.cells.toList (List.all_eq_true.2 fun d hd => oneO_nil (List.all_eq_true.1 hp d hd)) hus
    have := R.newBox (id := r) (n := r) (cs := zv.cells.toList.map ofV1) (us := zv.cells.toList) (ty := t) (dst := some i) hr (by omega) (fun j hj => by simp only [Option.some.injEq] at hj; subst hj; simpa [dstOK] using hd) hus hone
    have hrun : (execOp a.eval ⟨some i, .alloc t, type, pos, after, guard⟩).run P w = .ok (.value (.pointer (some ⟨w.heap.size, 0, none⟩))) (w.alloc (.cells zv.cells.toList.toArray t)) := by
     simp [execOp, Instr.alloc, hzr, newVar, newRow]
    exact wp_val (fun c hc => by cases hc) hrun (hn _ _ _ this)
   ·simp at h
 case store t ad y =>
  split at h
  ·rename_i id r' off had
   split at h
   ·rename_i e he
    split at h
    ·rename_i cs hob
     simp only [Option.some.injEq] at h
     subst h
     simp only at hp hn
     obtain ⟨her, hdst0, hc, hpl, hfit⟩ := hp
     have hdst0 : dst = none := by cases dst <;> simp_all
     subst hdst0
     have ha := hed ad (by simp [Op.operands, Call.operands])
     rw [had] at ha
     obtain ⟨w', hrun, R'⟩ := R.storeBox (P := P) (t := t) (n := r) he her hob ha (hed y (by simp [Op.operands, Call.operands])) hpl hc hfit (hmd y (by simp [Op.operands, Call.operands])) hr
     have hrun' : (execOp a.eval ⟨none, .store t ad y, type, pos, after, guard⟩).run P w = .ok .skip w' := by
      simp [execOp, hrun]
     exact wp_unit (fun c hc => by cases hc) hrun' (hn _ _ _ R')
    ·simp at h
   ·simp at h
  ·rename_i id r' k i j had
   unfold eStoreRow at h
   split at h
   ·rename_i e he
    split at h
    ·rename_i et k' bs es hob
     split at h
     ·rename_i c0 hc0
      simp only [Option.some.injEq] at h
      subst h
      simp only at hp hn
      obtain ⟨her, rfl, hdst0, hc, hpl, hfit⟩ := hp
      have hdst0 : dst = none := by cases dst <;> simp_all
      subst hdst0
      have ha := hed ad (by simp [Op.operands, Call.operands])
      rw [had] at ha
      obtain ⟨w', hrun, R'⟩ := R.storeRow (P := P) (t := t) (n := r) he her hob ha (hed y (by simp [Op.operands, Call.operands])) hpl hc hc0 hfit (hmd y (by simp [Op.operands, Call.operands])) hr
      have hrun' : (execOp a.eval ⟨none, .store t ad y, type, pos, after, guard⟩).run P w = .ok .skip w' := by
       simp [execOp, hrun]
      exact wp_unit (fun c hc => by cases hc) hrun' (hn _ _ _ R')
     ·simp at h
    ·simp at h
   ·simp at h
  ·simp at h
 case makeSlice t lo co =>
  unfold eMake at h
  cases dst with
  | none => simp at h
  | some i =>
  simp only [Option.map_some] at h
  split at h
  ·rename_i i1 k bs et zs kl n kc m hi1 ht hte hz hl hc
   simp only [Option.some.injEq] at hi1
   subst hi1
   simp only [Option.some.injEq] at h
   subst h
   simp only at hp hn
   obtain ⟨h1, h2, h3, h4, h5, h6⟩ := hp
   have rl := hed lo (by simp [Op.operands, Call.operands])
   have rc := hed co (by simp [Op.operands, Call.operands])
   rw [hl] at rl
   rw [hc] at rc
   simp only [rd] at rl rc
   obtain ⟨v', w', L, hrun, R'⟩ := R.makeRow (P := P) (id := r) (n := r) (kl := kl) (kc := kc) (dst := some i) hr (fun j hj => by simp only [Option.some.injEq] at hj; subst hj; simpa [dstOK] using hd) ht hte hz h1 h2 h3 h4 h5 h6
   have hrun' : (execOp a.eval ⟨some i, .makeSlice t lo co, type, pos, after, guard⟩).run P w = .ok (.value v') w' := by
    simp [execOp, rl.1, rc.1, hrun]
   exact wp_val (fun c hc => by cases hc) hrun' (hn _ _ _ R')
  ·simp at h
 case makeMap t rv =>
  cases dst with
  | none => (split at h <;> simp_all)
  | some i =>
  simp only [Option.map_some] at h
  split at h
  ·rename_i i1 kte hi1 ht
   simp only [Option.some.injEq] at hi1
   subst hi1
   simp only [Option.some.injEq] at h
   subst h
   simp only at hp hn
   have := R.newMap (id := r) (n := r) (dst := some i) hr (fun j hj => by simp only [Option.some.injEq] at hj; subst hj; simpa [dstOK] using hd)
   have hrun : (execOp a.eval ⟨some i, .makeMap t none, type, pos, after, guard⟩).run P w = .ok (.value (.map (some w.heap.size))) (w.alloc (.map #[] 0)) := by
    simp [execOp, RowKit.run_makeMap]
   exact wp_val (fun c hc => by cases hc) hrun (hn _ _ _ this)
  ·simp at h
 case mapUpdate t m k x =>
  split at h
  ·rename_i id r' kt et hm ht
   split at h
   ·rename_i e he
    split at h
    ·rename_i ks vs hob
     simp only [Option.some.injEq] at h
     subst h
     simp only at hp hn
     obtain ⟨her, hdst0, hk, hks⟩ := hp
     have hdst0 : dst = none := by cases dst <;> simp_all
     subst hdst0
     have ha := hed m (by simp [Op.operands, Call.operands])
     rw [hm] at ha
     obtain ⟨w', hrun, R'⟩ := R.updMap (P := P) (t := t) (n := r) he her hob ha (hed k (by simp [Op.operands, Call.operands])) (hed x (by simp [Op.operands, Call.operands])) ht hk hks (hmd k (by simp [Op.operands, Call.operands])) (hmd x (by simp [Op.operands, Call.operands])) hr
     have hrun' : (execOp a.eval ⟨none, .mapUpdate t m k x, type, pos, after, guard⟩).run P w = .ok .skip w' := by
      simp [execOp, hrun]
     exact wp_unit (fun c hc => by cases hc) hrun' (hn _ _ _ R')
    ·simp at h
   ·simp at h
  ·simp at h
 case call c =>
  obtain ⟨cal, args, ats⟩ := c
  cases cal <;> simp only [reduceCtorEq] at h
  rename_i b
  cases b <;> simp only [reduceCtorEq] at h
  obtain ⟨al⟩ := args
  obtain ⟨tl⟩ := ats
  case append =>
   unfold eAppend at h
   split at h
   ·rename_i da db t t' hargs hts
    cases dst with
    | none => simp at h
    | some i =>
    simp only [Option.map_some] at h
    split at h
    ·rename_i i1 k bs et hi1 ht hte
     simp only [Option.some.injEq] at hi1
     subst hi1
     split at h
     ·rename_i x hstr
      split at h
      ·rename_i id es hdest
       simp only [Option.some.injEq] at h
       subst h
       simp only at hp hn
       obtain ⟨ht2, hz, hk, hbs, hb, hl⟩ := hp
       have hdb : db = .str x := by
        unfold strOf at hstr
        split at hstr
        ·simp only [Option.some.injEq] at hstr; rw [hstr]
        ·simp at hstr
       match al, hargs with
       | [xa, xb], hargs =>
        simp only [List.map_cons, List.map_nil, List.cons.injEq, and_true] at hargs
        obtain ⟨hxa, hxb⟩ := hargs
        subst hts
        have ra := hed xa (by simp [Op.operands, Call.operands])
        have rb := hed xb (by simp [Op.operands, Call.operands])
        rw [hxa] at ra
        rw [hxb, hdb] at rb
        simp only [Rds, rd] at rb
        have hrow := destOf_ok (i0 := r) (r := r) R (by omega) hdest ra
        have hu2 : P.underlying t' = some .string := by
         unfold tStr at ht2
         split at ht2
         ·assumption
         ·simp at ht2
        obtain ⟨v', w', L, hrun, R'⟩ := R.appendStr (P := P) (ty := type) (id := id.getD r) (n := r) (x := x) (dst := some i) hr (fun j hj => by simp only [Option.some.injEq] at hj; subst hj; simpa [dstOK] using hd) ht hte hz (by omega) hrow.1 hrow.2 hu2 hk hb hbs (by unfold maxLen; omega)
        have hrun' : (execOp a.eval ⟨some i, .call { callee := .builtin .append, args := ⟨[xa, xb]⟩, argTypes := ⟨[t, t']⟩ }, type, pos, after, guard⟩).run P w = .ok (.value v') w' := by
         simp only [execOp, resolve, Sem.run_bind, List.map_toArray, List.map_cons, List.map_nil, Sem.run_pure, Result.andThen_ok, invoke, builtin, rb.1, hrun]
        exact wp_val (fun c hc => by cases hc) hrun' (hn _ _ _ R')
      ·simp at h
     split at h
     ·rename_i id es k2 es2 hdest hsrc
      simp only [Option.some.injEq] at h
      subst h
      simp only at hp hn
      obtain ⟨rfl, hz, hk, hk2, hbs, hb, hl⟩ := hp
      match al, hargs with
      | [xa, xb], hargs =>
       simp only [List.map_cons, List.map_nil, List.cons.injEq, and_true] at hargs
       obtain ⟨hxa, hxb⟩ := hargs
       subst hts
       have ra := hed xa (by simp [Op.operands, Call.operands])
       have rb := hed xb (by simp [Op.operands, Call.operands])
       rw [hxa] at ra
       rw [hxb] at rb
       have ma := hmd xa (by simp [Op.operands, Call.operands])
       have mb := hmd xb (by simp [Op.operands, Call.operands])
       rw [hxa] at ma
       rw [hxb] at mb
       have hrow := destOf_ok (i0 := r) (r := r) R (by omega) hdest ra
       have hmx2 : mxR es2 ≤ r := by
        unfold rowsN at hsrc
        split at hsrc
        ·simp only [Option.some.injEq, Prod.mk.injEq] at hsrc
         obtain ⟨_, rfl⟩ := hsrc
         simp [mxR]
        ·simp only [Option.some.injEq, Prod.mk.injEq] at hsrc
         obtain ⟨_, rfl⟩ := hsrc
         simp [mxR]
        ·rw [Option.map_eq_some_iff] at hsrc
         obtain ⟨⟨k', b', es'⟩, h1, h2⟩ := hsrc
         simp only [Prod.mk.injEq] at h2
         obtain ⟨_, rfl⟩ := h2
         have := rowsOf_mx h1
         omega
       obtain ⟨v', w', L, hrun, R'⟩ := R.append (P := P) (ty := type) (id := id.getD r) (n := r) (dst := some i) hr (fun j hj => by simp only [Option.some.injEq] at hj; subst hj; simpa [dstOK] using hd) ht hte hz hk hrow.1 hrow.2 rb hsrc hk2 hmx2 hb hbs (by unfold maxLen; omega)
       have hrun' : (execOp a.eval ⟨some i, .call { callee := .builtin .append, args := ⟨[xa, xb]⟩, argTypes := ⟨[t', t']⟩ }, type, pos, after, guard⟩).run P w = .ok (.value v') w' := by
        simp only [execOp, resolve, Sem.run_bind, List.map_toArray, List.map_cons, List.map_nil, Sem.run_pure, Result.andThen_ok, invoke, builtin, hrun]
       exact wp_val (fun c hc => by cases hc) hrun' (hn _ _ _ R')
     ·simp at h
    ·simp at h
   ·simp at h
  case copy =>
   obtain ⟨al⟩ := args
   obtain ⟨tl⟩ := ats
   unfold eCopy at h
   split at h
   ·rename_i d sd t t' hargs hts
    subst hts
    match al, hargs with
    | [xa, xb], hargs =>
     simp only [List.map_cons, List.map_nil, List.cons.injEq, and_true] at hargs
     obtain ⟨hxa, hxb⟩ := hargs
     have ra := hed xa (by simp [Op.operands, Call.operands])
     have rb := hed xb (by simp [Op.operands, Call.operands])
     have mb := hmd xb (by simp [Op.operands, Call.operands])
     rw [hxa] at ra
     rw [hxb] at rb mb
     split at h
     ·rename_i k k0 id r' i m et k' bs es k2 es2 ht hpart hsrc
      simp only [Option.some.injEq] at h
      subst h
      simp only at hp
      obtain ⟨rfl, rfl, hk, hb, hk2⟩ := hp
      obtain ⟨e, bs0, he, her, hob, hdd⟩ := partD_ok hpart
      obtain ⟨w', hrun, R'⟩ := R.copyRow (P := P) (ty := type) (n := r) (bs0 := bs0) (dst := dst) he her hob ra hdd hb ht hk rb hsrc hk2 (rowsN_mx hsrc (by omega) (by omega)) hr (fun j hj => by subst hj; simpa [dstOK] using hd)
      have hrun' : (execOp a.eval ⟨dst, .call { callee := .builtin .copy, args := ⟨[xa, xb]⟩, argTypes := ⟨[t', t']⟩ }, type, pos, after, guard⟩).run P w = .ok (.value (goInt (min es2.length m : Nat))) w' := by
       simp only [execOp, resolve, Sem.run_bind, List.map_toArray, List.map_cons, List.map_nil, Sem.run_pure, Result.andThen_ok, invoke, builtin, hrun]
      exact wp_val (fun c hc => by cases hc) hrun' (hn _ _ _ R')
     ·simp at h
   ·simp at h
  case clear =>
   obtain ⟨al⟩ := args
   obtain ⟨tl⟩ := ats
   have main : ∀ {w' : World} {own' : List Ent} {loc' : Nat → Loc} {xa : Operand} {t : TypeId}, al = [xa] → tl = [t] → (Builtin.clear_ #[t] type #[a.eval xa]).run P w = .ok (.tuple #[]) w' → Rel B ⟨putS s.slots dst (.tup []), own'⟩ (a.put dst (.tuple #[])) w' loc' → x.d = .tup [] → x.own = own' →
     (Oper.mk dst (.call { callee := .builtin .clear, args := ⟨al⟩, argTypes := ⟨tl⟩ }) type pos after guard).wpIn (wd B.ro) 0 P a w next Q := by
    intro w' own' loc' xa t hal htl hrun R' hxd hxo
    subst hal; subst htl
    rw [hxd, hxo] at hn
    have hrun' : (execOp a.eval ⟨dst, .call { callee := .builtin .clear, args := ⟨[xa]⟩, argTypes := ⟨[t]⟩ }, type, pos, after, guard⟩).run P w = .ok (.value (.tuple #[])) w' := by
     simp only [execOp, resolve, Sem.run_bind, List.map_toArray, List.map_cons, List.map_nil, Sem.run_pure, Result.andThen_ok, invoke, builtin, hrun]
    exact wp_val (fun c hc => by cases hc) hrun' (hn _ _ _ R')
   unfold eClear at h
   split at h
   ·rename_i d t hargs hts
    subst hts
    match al, hargs with
    | [xa], hargs =>
     simp only [List.map_cons, List.map_nil, List.cons.injEq, and_true] at hargs
     have ra := hed xa (by simp [Op.operands, Call.operands])
     rw [hargs] at ra
     split at h
     ·rename_i k bs0 zs ht hz
      split at h
      ·rename_i id r' 
       split at h
       ·rename_i e he
        split at h
        ·rename_i et k' bs es hob
         simp only [Option.some.injEq] at h
         subst h
         simp only at hp
         obtain ⟨her, rfl, h1, h2, h3⟩ := hp
         obtain ⟨w', hrun, R'⟩ := R.clearRow (P := P) (t := t) (ty := type) (n := r) (k0 := bs0) (bs0 := 0) (e' := 0) (dst := dst) he her hob ra (.inl ⟨rfl, rfl, rfl⟩) (by simp) ht hz h1 h2 h3 hr (fun j hj => by subst hj; simpa [dstOK] using hd)
         exact main rfl rfl hrun R' rfl rfl
        ·simp at h
       ·simp at h
      ·rename_i id r' k0 bs1 i m _
       split at h
       ·rename_i e he
        split at h
        ·rename_i et k' bs es hob
         simp only [Option.some.injEq] at h
         subst h
         simp only at hp
         obtain ⟨her, rfl, rfl, h1, h2, h3, h4⟩ := hp
         obtain ⟨w', hrun, R'⟩ := R.clearRow (P := P) (t := t) (ty := type) (n := r) (k0 := bs0) (bs0 := bs1) (e' := 0) (dst := dst) he her hob ra (.inr rfl) h4 ht hz h1 h2 h3 hr (fun j hj => by subst hj; simpa [dstOK] using hd)
         exact main rfl rfl hrun R' rfl rfl
        ·simp at h
       ·simp at h
      ·simp at h
     ·simp at h
   ·simp at h
  case delete =>
   obtain ⟨al⟩ := args
   obtain ⟨tl⟩ := ats
   unfold eDelete at h
   split at h
   ·rename_i dm dk t t2 hargs hts
    have htl : tl = [t, t2] := hts
    subst htl
    match al, hargs with
    | [xa, xb], hargs =>
     simp only [List.map_cons, List.map_nil, List.cons.injEq, and_true] at hargs
     obtain ⟨hxa, hxb⟩ := hargs
     have ra := hed xa (by simp [Op.operands, Call.operands])
     have rb := hed xb (by simp [Op.operands, Call.operands])
     rw [hxa] at ra
     rw [hxb] at rb
     split at h
     ·rename_i id r' kt et ht
      split at h
      ·rename_i e he
       split at h
       ·rename_i ks vs hob
        simp only [Option.some.injEq] at h
        subst h
        simp only at hp
       ·simp at h
      ·simp at h
     ·simp at h
   ·simp at h
end
end Go.Dm
end
