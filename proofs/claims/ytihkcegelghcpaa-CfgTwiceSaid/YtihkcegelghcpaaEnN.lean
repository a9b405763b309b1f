/- The data machine, second make, part N: an own object is laid to rest: from then on it is plain data. -/
import Derived.Test.YtihkcegelghcpaaEnM
import Derived.Test.YtihkcegelghcpaaEnR
set_option linter.unusedSimpArgs false
set_option linter.unusedVariables false
namespace Go.Dm

def frz1 (id r : Nat) (obj : DObj) : DVal → DVal
  | .osl id' r' => if id' = id ∧ r' = r then (match obj with | .row _ k bs es => .sl k bs es | _ => .osl id' r') else .osl id' r'
  | .bx id' r' off => if id' = id ∧ r' = r then (match obj with | .box cs => .ref (cs.drop off) | _ => .bx id' r' off) else .bx id' r' off
  | .vw id' r' k i0 i n => if id' = id ∧ r' = r then (match obj with | .row _ k' bs es => if k' = k ∧ i + n ≤ es.length then .sl k bs ((es.drop i).take n) else .any | _ => .any) else .vw id' r' k i0 i n
  | .omp id' r' => if id' = id ∧ r' = r then (match obj with | .map ks vs => .mp ks vs | _ => .omp id' r') else .omp id' r'
  | d => d
def frz2 (id r : Nat) (obj : DObj) : DVal → DVal
  | .fn f us cs => .fn f us (cs.map (frz1 id r obj))
  | d => frz1 id r obj d
def frzD (id r : Nat) (obj : DObj) : DVal → DVal
  | .agg cs => .agg (cs.map (frz2 id r obj))
  | d => frz2 id r obj d
def frzO (id r : Nat) (obj : DObj) : DObj → DObj
  | .box cs => .box (cs.map (frz2 id r obj))
  | o => o
def frzE (id r : Nat) (obj : DObj) (own : List Ent) : List Ent := own.map fun e => ⟨e.id, e.r, frzO id r obj e.obj⟩
/-- all slots by one function; left folded, so that a slot is turned where it is asked for -/
def mapS (f : DVal → DVal) (l : List (Nat × DVal)) : List (Nat × DVal) := l.map fun p => (p.1, f p.2)

def freezeS (s : DS) (id : Nat) : DS := match findE s.own id with
  | some e => ⟨mapS (frzD id e.r e.obj) s.slots, frzE id e.r e.obj (delE s.own id)⟩
  | none => s
def freezeL (s : DS) : List Nat → DS
  | [] => s
  | id :: ids => freezeL (freezeS s id) ids

theorem getS_mapS (f : DVal → DVal) (hf : f .any = .any) : ∀ (l : List (Nat × DVal)) (i : Nat), getS (mapS f l) i = f (getS l i)
  | [], i => by simp [mapS, getS, hf]
  | (j, d) :: l, i => by
    have := getS_mapS f hf l i
    simp only [mapS, List.map_cons, getS] at this ⊢
    split
    · rfl
    · exact this
@[simp] theorem getS_frz (id r : Nat) (obj : DObj) (l : List (Nat × DVal)) (i : Nat) : getS (mapS (frzD id r obj) l) i = frzD id r obj (getS l i) := getS_mapS _ rfl _ _

section
variable {B : Base} {s : DS} {a : Act} {w : World} {loc : Nat → Loc}

theorem findE_map (f : Ent → Ent) (hid : ∀ e, (f e).id = e.id) : ∀ (own : List Ent) (id : Nat), findE (own.map f) id = (findE own id).map f
  | [], id => rfl
  | e :: t, id => by
    simp only [List.map_cons, findE, hid]
    split
    · rfl
    · exact findE_map f hid t id

theorem curOf_frzE (id r : Nat) (obj : DObj) (own : List Ent) (loc : Nat → Loc) : curOf (frzE id r obj own) loc = curOf own loc := by
  funext i k
  unfold curOf frzE
  rw [findE_map (fun e => ⟨e.id, e.r, frzO id r obj e.obj⟩) (fun _ => rfl)]
  cases findE own i <;> rfl

theorem hotOf_frzE (id r : Nat) (obj : DObj) (own : List Ent) (loc : Nat → Loc) : hotOf (frzE id r obj own) loc = hotOf own loc := by
  unfold hotOf frzE
  induction own with
  | nil => rfl
  | cons e t ih =>
    rw [List.map_cons, List.flatMap_cons, List.flatMap_cons, ih]

theorem Rel.freeze {id : Nat} {e : Ent} (R : Rel B s a w loc) (he : findE s.own id = some e) : Rel B ⟨mapS (frzD id e.r e.obj) s.slots, frzE id e.r e.obj (delE s.own id)⟩ a w loc := by
  obtain ⟨hmem, hid⟩ := findE_mem he
  have hsub : ∀ x ∈ delE s.own id, x ∈ s.own := fun x hx => (mem_delE.1 hx).1
  have hhot : ∀ b ∈ hotOf (delE s.own id) loc, b ∈ hotOf s.own loc := by
    intro b hb
    obtain ⟨x, hx, h1⟩ := List.mem_flatMap.1 hb
    exact List.mem_flatMap.2 ⟨x, hsub x hx, h1⟩
  have hcur : ∀ i r l, curOf (delE s.own id) loc i r = some l → curOf s.own loc i r = some l := by
    intro i r l h
    obtain ⟨x, hx, rfl, rfl, rfl⟩ := curOf_some h
    exact curOf_self R.st.nd (hsub x hx)
  have W : ∀ n, Weak (curOf s.own loc) (curOf (delE s.own id) loc) (hotOf s.own loc ++ B.M0) (hotOf (delE s.own id) loc ++ B.M0) w.heap w.heap n := fun n =>
    ⟨fun id r l _ hl => hcur id r l hl, fun b o _ (_ : isD o = true) ho => ho, fun b o hb (_ : isD o = true) _ hm' => hb (by
      rcases List.mem_append.1 hm' with h | h
      · exact List.mem_append_left _ (hhot b h)
      · exact List.mem_append_right _ h)⟩
  have hself : curOf s.own loc id e.r = some (loc id) := by rw [← hid]; exact curOf_self R.st.nd hmem
  have hout : ∀ b, b ∈ (loc e.id).blks → b ∉ hotOf (delE s.own id) loc ++ B.M0 := by
    intro b hb hm'
    rcases List.mem_append.1 hm' with h | h
    · obtain ⟨x, hx, hne, h1⟩ := hot_sub h
      have := hot_inj R.st.bl x hx e hmem b h1 hb
      subst this
      exact hne hid
    · exact R.st.ap b (mem_hot hmem hb) h
  have hobj := R.st.ok e hmem
  have k1 : ∀ d v, rd (curOf s.own loc) (hotOf s.own loc ++ B.M0) w.heap d v → rd (curOf (delE s.own id) loc) (hotOf (delE s.own id) loc ++ B.M0) w.heap (frz1 id e.r e.obj d) v := by
    intro d v h
    have hw := rd_weak (W _) d v (Nat.le_refl _) h
    cases d <;> simp only [frz1] <;> try exact hw
    · split
      · rename_i hc
        obtain ⟨rfl, rfl⟩ := hc
        cases hob : e.obj with
        | row et k bs es => exact hw
        | map ks vs => exact hw
        | abs A => exact hw
        | box cs =>
          rw [hob] at hobj
          obtain ⟨b, arr, ty, h1, h2, h3, h4⟩ := hobj
          simp only [rd] at h
          obtain ⟨b', hb', hv⟩ := h _ hself
          rw [← hid, h1] at hb'
          simp only [List.cons.injEq, and_true] at hb'
          subst hb'
          simp only [rd]
          refine ⟨b, _, arr, ty, (0, 0), hv, hout b (by rw [h1]; simp), h2, ?_⟩
          have := fun n => rdC_drop n cs arr 0 (rdC_weak (W _) cs arr 0 (Nat.le_refl _) h4)
          simpa using this _
      · exact hw
    · split
      · rename_i hc
        obtain ⟨rfl, rfl⟩ := hc
        cases hob : e.obj with
        | box cs => exact hw
        | map ks vs => exact hw
        | abs A => exact hw
        | row et k bs es =>
          rw [hob] at hobj
          obtain ⟨hbs, hobj⟩ := hobj
          simp only [rd] at h
          have hv := h _ hself
          rw [← hid] at hv
          simp only [rd]
          rcases hobj with ⟨rfl, _, h2⟩ | ⟨b, arr, cap, h1, h2, h3, h4, h5, h6, h7⟩
          · exact ⟨none, 0, by rw [hv, h2]; rfl, by simp, by unfold maxLen; omega, by simp, .inl ⟨rfl, fun _ => rfl⟩⟩
          · exact ⟨_, cap, by rw [hv, h2], h4, h5, hbs, .inr ⟨b, 0, arr, et, (0, 0), rfl, hout b (by rw [h1]; simp), h3, rdR_weak (W _) k es arr 0 (Nat.le_refl _) h7⟩⟩
      · exact hw
    · rename_i id' r' k0 bs0 i n
      split
      · rename_i hc
        obtain ⟨rfl, rfl⟩ := hc
        cases hob : e.obj with
        | box cs => simp [rd]
        | map ks vs => simp [rd]
        | abs A => simp [rd]
        | row et k bs es =>
          simp only
          split
          · rename_i hb
            obtain ⟨rfl, hb⟩ := hb
            rw [hob] at hobj
            obtain ⟨hbs, hobj⟩ := hobj
            simp only [rd] at h
            obtain ⟨a, cap, rfl, g1, g2, g3, g4, _⟩ := h _ hself
            have hlen : ((es.drop i).take n).length = n := by simp; omega
            simp only [rd]
            refine ⟨a, cap, by rw [hlen], by omega, g2, by rw [hlen]; exact Nat.le_trans (Nat.mul_le_mul_right _ (by omega : n ≤ es.length)) hbs, ?_⟩
            by_cases h0 : n = 0
            · subst h0; exact .inl ⟨by simp, g3⟩
            · obtain ⟨b, hb1, rfl⟩ := g4 (by omega)
              rw [← hid] at hb1
              rcases hobj with ⟨rfl, _⟩ | ⟨b', arr, cap', h1, h2, h3, h4, h5, h6, h7⟩
              · simp at hb; omega
              · rw [h1] at hb1
                simp only [List.cons.injEq, and_true] at hb1
                subst hb1
                refine .inr ⟨b', i * k, arr, et, (0, 0), rfl, hout b' (by rw [h1]; simp), h3, rdR_mk _ _ _ _ fun q cs hq => ?_⟩
                rw [List.getElem?_take] at hq
                split at hq
                · rw [List.getElem?_drop] at hq
                  have := rdR_at k es arr 0 (i + q) cs (rdR_weak (W _) k es arr 0 (Nat.le_refl _) h7) hq
                  rwa [Nat.add_mul, Nat.zero_add] at this
                · simp at hq
          · simp [rd]
      · exact hw
    · split
      · rename_i hc
        obtain ⟨rfl, rfl⟩ := hc
        cases hob : e.obj with
        | box cs => exact hw
        | row et k bs es => exact hw
        | abs A => exact hw
        | map ks vs =>
          rw [hob] at hobj
          obtain ⟨b, es, clk, h1, h2, h3, h4, h5⟩ := hobj
          simp only [rd] at h
          obtain ⟨b', hb', hv⟩ := h _ hself
          rw [← hid, h1] at hb'
          simp only [List.cons.injEq, and_true] at hb'
          subst hb'
          simp only [rd]
          exact ⟨b, es, clk, hv, hout b (by rw [h1]; simp), h2, h3, rdV_weak (W _) ks _ (Nat.le_refl _) h4, rdV_weak (W _) vs _ (Nat.le_refl _) h5⟩
      · exact hw
  have kV : ∀ (f : DVal → DVal), (∀ d v, rd (curOf s.own loc) (hotOf s.own loc ++ B.M0) w.heap d v → rd (curOf (delE s.own id) loc) (hotOf (delE s.own id) loc ++ B.M0) w.heap (f d) v) →
      ∀ ds vs, rdV (curOf s.own loc) (hotOf s.own loc ++ B.M0) w.heap ds vs → rdV (curOf (delE s.own id) loc) (hotOf (delE s.own id) loc ++ B.M0) w.heap (ds.map f) vs := by
    intro f hf ds
    induction ds with
    | nil => intro vs h; simpa [rdV] using h
    | cons d ds ih =>
      intro vs h
      simp only [rdV] at h
      obtain ⟨v, r, rfl, h1, h2⟩ := h
      simp only [List.map_cons, rdV]
      exact ⟨v, r, rfl, hf d v h1, ih r h2⟩
  have k2 : ∀ d v, rd (curOf s.own loc) (hotOf s.own loc ++ B.M0) w.heap d v → rd (curOf (delE s.own id) loc) (hotOf (delE s.own id) loc ++ B.M0) w.heap (frz2 id e.r e.obj d) v := by
    intro d v h
    cases d <;> simp only [frz2] <;> try exact k1 _ v h
    rename_i f us cs
    simp only [rd] at h ⊢
    obtain ⟨us', cs', h1, h2, h3⟩ := h
    exact ⟨us', cs', h1, rdV_weak (W _) us _ (Nat.le_refl _) h2, kV _ k1 cs _ h3⟩
  have k3 : ∀ d v, rd (curOf s.own loc) (hotOf s.own loc ++ B.M0) w.heap d v → rd (curOf (delE s.own id) loc) (hotOf (delE s.own id) loc ++ B.M0) w.heap (frzD id e.r e.obj d) v := by
    intro d v h
    cases d <;> simp only [frzD] <;> try exact k2 _ v h
    rename_i cs
    simp only [rd] at h ⊢
    obtain ⟨us, h1, h2⟩ := h
    exact ⟨us, h1, kV _ k2 cs _ h2⟩
  have kC : ∀ (ds : List DVal) (arr : Array Value) (o : Nat), rdC (curOf s.own loc) (hotOf s.own loc ++ B.M0) w.heap ds arr o → rdC (curOf (delE s.own id) loc) (hotOf (delE s.own id) loc ++ B.M0) w.heap (ds.map (frz2 id e.r e.obj)) arr o := by
    intro ds
    induction ds with
    | nil => intro arr o _; simp [rdC]
    | cons d ds ih =>
      intro arr o h
      simp only [rdC, List.map_cons] at h ⊢
      obtain ⟨⟨v, h1, h1', h2⟩, h3⟩ := h
      exact ⟨⟨v, h1, h1', k2 d v h2⟩, ih arr _ h3⟩
  refine ⟨⟨?_, ?_, ?_, ?_, ?_⟩, R.upd, ?_, ?_, ?_, R.nt, R.df.keep rfl (Upd.refl [] w) (by simp) (fun b hb => .inl (by
    simp only [hotOf_frzE] at hb
    rcases List.mem_append.1 hb with h | h
    · exact List.mem_append_left _ (hhot b h)
    · exact List.mem_append_right _ h))⟩
  · simp only [frzE, List.map_map]
    exact nodup_delE R.st.nd
  · simp only [hotOf_frzE]; exact hot_nodup_sub R.st.bl _ (nodup_delE R.st.nd) hsub
  · simp only [hotOf_frzE]; exact fun b hb => R.st.ap b (hhot b hb)
  · simp only [hotOf_frzE]
    intro b hb
    rcases List.mem_append.1 hb with h | h
    · exact R.st.lt b (List.mem_append_left _ (hhot b h))
    · exact R.st.lt b (List.mem_append_right _ h)
  · intro x hx
    simp only [hotOf_frzE, curOf_frzE]
    obtain ⟨y, hy, rfl⟩ := List.mem_map.1 hx
    have hk := R.st.ok y (hsub y hy)
    simp only
    cases hob : y.obj with
    | box cs =>
      rw [hob] at hk
      obtain ⟨b, arr, ty, h1, h2, h3, h4⟩ := hk
      exact ⟨b, arr, ty, h1, h2, by simp [h3], kC cs arr 0 h4⟩
    | row et k bs es => rw [hob] at hk; exact ObjOK_weak (W (mxO (.row et k bs es))) (Nat.le_refl _) (fun _ _ _ h => h) hk
    | map ks vs => rw [hob] at hk; exact ObjOK_weak (W (mxO (.map ks vs))) (Nat.le_refl _) (fun _ _ _ h => h) hk
    | abs A => rw [hob] at hk; exact ObjOK_weak (W (mxO (.abs A))) (Nat.le_refl _) (fun _ _ _ h => h) hk
  · simp only [hotOf_frzE]; exact fun b hb => R.new b (hhot b hb)
  · intro x hx hr
    obtain ⟨y, hy, rfl⟩ := List.mem_map.1 hx
    exact R.ver y (hsub y hy) hr
  · intro i
    simp only [hotOf_frzE, curOf_frzE, getS_frz]
    exact k3 _ _ (R.sl i)

theorem Sub.refl (s : DS) : Sub B s s := fun _ _ loc R => ⟨loc, R⟩
theorem Sub.trans {s' s'' : DS} (h : Sub B s s') (k : Sub B s' s'') : Sub B s s'' := fun a w loc R =>
  let ⟨loc', R'⟩ := h a w loc R; k a w loc' R'
theorem Sub.freezeS (s : DS) (id : Nat) : Sub B s (freezeS s id) := by
  intro a w loc R
  unfold Dm.freezeS
  split
  · rename_i e he; exact ⟨loc, R.freeze he⟩
  · exact ⟨loc, R⟩
theorem Sub.freezeL : ∀ (ids : List Nat) (s : DS), Sub B s (freezeL s ids)
  | [], s => Sub.refl s
  | id :: ids, s => (Sub.freezeS s id).trans (Sub.freezeL ids _)

theorem Sub.rel {s' : DS} {Q : Exit → DS → Prop} {e : Exit} (h : Sub B s s') (hq : Q e s') {a : Act} {w : World} {loc : Nat → Loc} (R : Rel B s a w loc) : QQ B Q e a w :=
  let ⟨loc', R'⟩ := h a w loc R; ⟨s', loc', hq, R'⟩

variable {P : Program}
/-- what is said of a region: what is laid to rest at its end; which operations see no rows (l1), no own objects at all (l2) -/
structure RAnn where
  id : Nat
  fz : List Nat
  l1 : List Nat
  l2 : List Nat
/-- the region's end -/
def kQ (Q : Exit → DS → Prop) (fz : List Nat) : Cont := ⟨fun s' => Q .normal (freezeL s' fz)⟩
theorem kQ_f (Q : Exit → DS → Prop) (fz : List Nat) (s' : DS) : (kQ Q fz).f s' = Q .normal (freezeL s' fz) := id rfl
def annAt : List RAnn → Nat → RAnn
  | [], id => ⟨id, [], [], []⟩
  | a :: r, id => if a.id = id then a else annAt r id
/-- 'ow': the slots of boxes and literals that are own -/
structure Ann where
  ow : List Nat
  rs : List RAnn
theorem DW_r (A : Ann) {id : Nat} {ops : Array Oper} {draw : Bool} {Q : Exit → DS → Prop} (hm : P.follows .mixedOrders = true) (hok : (!draw || drawOKE A.ow (annAt A.rs id).l1 (annAt A.rs id).l2 ops) = true)
    (h : dOpsX P B.nt A.ow (annAt A.rs id).l1 (annAt A.rs id).l2 ops ops.toList 0 (kQ Q (annAt A.rs id).fz) s) : DW P B (.region id ops draw) Q s := by
  have fin : ∀ {c : Code}, DW P B c (fun e s' => match e with | .normal => Q .normal (freezeL s' (annAt A.rs id).fz) | e => Q e s') s → DW P B c Q s := by
    intro c h a w loc R
    refine wpIn_mono (h a w loc R) ?_
    rintro e a' w' ⟨s', loc', hq, R'⟩
    cases e <;> first
      | exact (Sub.freezeL _ s').rel hq R'
      | exact ⟨s', loc', hq, R'⟩
  cases draw with
  | false => exact fin (DW_region_textX _ _ _ h)
  | true => exact fin (DW_region_drawX _ _ _ hm (by simpa using hok) h)

end

/-- own objects that are named in 'ids' are laid to rest, then the results are read -/
def DretF (P : Program) (fn : Func) (ids : List Nat) (d : DVal) : Exit → DS → Prop
  | .normal, s => match resD P (freezeL s ids) fn.results.toList with | some d0 => wk d0 d | none => False
  | .ret, s => match resD P (freezeL s ids) fn.results.toList with | some d0 => wk d0 d | none => False
  | _, _ => False

theorem DPure.wk {P : Program} {f : FuncId} {args : List DVal} {d d' : DVal} (h : DPure P f args d) (hw : wk d d') (hd : mx d' = 0) : DPure P f args d' :=
  ⟨h.1, hd, fun cur M w vs hM hr => (h.2.2 cur M w vs hM hr).mono fun e w' ⟨v, h1, h2, h3⟩ => ⟨v, h1, h2, rd_wk hw h3⟩⟩

theorem rdV_split {cur : Cur} {M : List Nat} {h : Array Obj} : ∀ (a b : List DVal) (vs : List Value), rdV cur M h (a ++ b) vs → ∃ us ws, vs = us ++ ws ∧ rdV cur M h a us ∧ rdV cur M h b ws
  | [], b, vs, hr => ⟨[], vs, rfl, by simp [rdV], hr⟩
  | d :: a, b, vs, hr => by
    simp only [List.cons_append, rdV] at hr
    obtain ⟨v, r, rfl, h1, h2⟩ := hr
    obtain ⟨us, ws, rfl, h3, h4⟩ := rdV_split a b r h2
    exact ⟨v :: us, ws, rfl, by simp only [rdV]; exact ⟨v, us, rfl, h1, h3⟩, h4⟩

/-- an empty slice is nil, or it is not -/
theorem DPure_sl {P : Program} {f : FuncId} (pre : List DVal) {post : List DVal} {k bs : Nat} {d : DVal} (h1 : DPure P f (pre ++ .nilsl :: post) d) (h2 : DPure P f (pre ++ .esl :: post) d) : DPure P f (pre ++ .sl k bs [] :: post) d := by
  refine ⟨h1.1, h1.2.1, fun cur M w vs hM hr => ?_⟩
  obtain ⟨us, ws, hvs, h3, h4⟩ := rdV_split _ _ _ hr
  simp only [rdV] at h4
  obtain ⟨v, r, rfl, h5, h6⟩ := h4
  simp only [rd] at h5
  obtain ⟨a, cap, rfl, _, hc, _, h7⟩ := h5
  cases a with
  | none =>
    have : cap = 0 := by
      rcases h7 with h7 | ⟨b, off, arr, ty, fz, h8, _⟩
      · exact h7.2 rfl
      · simp at h8
    subst this
    refine h1.2.2 cur M w vs hM ?_
    rw [hvs]
    exact rdV_append _ _ _ _ h3 (by simp only [rdV]; exact ⟨_, r, rfl, by simp [rd], h6⟩)
  | some ad =>
    refine h2.2.2 cur M w vs hM ?_
    rw [hvs]
    exact rdV_append _ _ _ _ h3 (by simp only [rdV]; exact ⟨_, r, rfl, by simp only [rd]; exact ⟨ad, cap, rfl, hc⟩, h6⟩)

theorem DPure_introF (ids : List Nat) {P : Program} {f : FuncId} {fn : Func} {c : Code} {args : List DVal} {d : DVal} (hf : P.funcs[f]? = some fn) (hb : fn.body = some c) (hen : Enters P f) (hnt : args.length ≤ fn.ntmps)
    (hd : mx d = 0) (h : wfL args → ∀ B : Base, B.nt = fn.ntmps ∧ B.ro = none → DW P B c (DretF P fn ids d) ⟨argS args 0, []⟩) : DPure P f args d := by
  refine DPure_introW hf hb hen hnt hd fun hwf B hB => ?_
  intro a w loc R
  refine wpIn_mono (h hwf B hB a w loc R) ?_
  rintro e a' w' ⟨s', loc', hq, R'⟩
  have key : (match resD P (freezeL s' ids) fn.results.toList with | some d0 => wk d0 d | none => False) → ∃ s'' loc'', (∃ d0, resD P s'' fn.results.toList = some d0 ∧ ∀ cur M h v, rd cur M h d0 v → rd cur M h d v) ∧ Rel B s'' a' w' loc'' := by
    intro hq
    obtain ⟨loc'', R''⟩ := Sub.freezeL ids s' a' w' loc' R'
    split at hq
    · rename_i d0 hd0; exact ⟨_, loc'', ⟨d0, hd0, fun cur M h v hr => rd_wk hq hr⟩, R''⟩
    · exact hq.elim
  cases e <;> simp only [DretF] at hq <;> first
    | (obtain ⟨s'', loc'', h1, h2⟩ := key hq; exact ⟨s'', loc'', h1, h2⟩)
    | exact hq.elim

/-- the same, where own objects come in and are handed back -/
def DretS (P : Program) (fn : Func) (ids : List Nat) (ρ : List (Nat × Nat × Nat)) (d : DVal) (own' : List Ent) : Exit → DS → Prop
  | .normal, s => match resD P (freezeL s ids) fn.results.toList with
    | some d0 => okD d0 ∧ wk (renD (phiOf (freezeL s ids).own ρ) d0) d ∧ outE (freezeL s ids).own (phiOf (freezeL s ids).own ρ) ρ = some own' ∧ outOK (freezeL s ids).own ρ
    | none => False
  | .ret, s => match resD P (freezeL s ids) fn.results.toList with
    | some d0 => okD d0 ∧ wk (renD (phiOf (freezeL s ids).own ρ) d0) d ∧ outE (freezeL s ids).own (phiOf (freezeL s ids).own ρ) ρ = some own' ∧ outOK (freezeL s ids).own ρ
    | none => False
  | _, _ => False

end Go.Dm
