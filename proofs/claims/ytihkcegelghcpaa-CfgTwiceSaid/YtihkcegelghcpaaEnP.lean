/- The data machine, second make, part P: a state read as another one, its own objects under canonical versions. -/
import Derived.Test.YtihkcegelghcpaaEnO
set_option linter.unusedSimpArgs false
set_option linter.unusedVariables false
namespace Go.Dm

theorem renR_mx {φ : Nat → Nat → Option (Nat × Nat)} {d : DVal} (h : mx d = 0) : renR φ d = d ∧ okR d := by
  cases d <;> simp only [mx, Nat.add_eq_zero_iff, Nat.one_ne_zero, and_false] at h <;> simp only [renR, okR, mx, h, and_self, true_and]
theorem map_renR {φ : Nat → Nat → Option (Nat × Nat)} : ∀ {us : List DVal}, mxL us = 0 → us.map (renR φ) = us ∧ okRs us
  | [], _ => by simp [okRs]
  | d :: us, h => by
    simp only [mxL] at h
    have h1 := renR_mx (φ := φ) (d := d) (by omega)
    have h2 := map_renR (φ := φ) (us := us) (by omega)
    simp only [List.map_cons, h1.1, h2.1, okRs]
    exact ⟨trivial, h1.2, h2.2⟩

theorem hot_nodup_ids {own : List Ent} {loc : Nat → Loc} (hn : (hotOf own loc).Nodup) : ∀ l : List Ent, (l.map (·.id)).Nodup → (∀ e ∈ l, ∃ e0 ∈ own, e0.id = e.id) → (hotOf l loc).Nodup
  | [], _, _ => by simp [hotOf]
  | e :: l, hd, hm => by
    simp only [List.map_cons, List.nodup_cons] at hd
    rw [hot_cons, List.nodup_append]
    obtain ⟨e0, he0, hid0⟩ := hm e List.mem_cons_self
    refine ⟨by rw [← hid0]; exact blks_nodup hn e0 he0, hot_nodup_ids hn l hd.2 (fun x hx => hm x (List.mem_cons_of_mem _ hx)), ?_⟩
    intro b hb b' hb' hbb
    subst hbb
    obtain ⟨e2, he2, hb2⟩ := List.mem_flatMap.1 hb'
    obtain ⟨e3, he3, hid3⟩ := hm e2 (List.mem_cons_of_mem _ he2)
    have := hot_inj hn e0 he0 e3 he3 b (by rw [hid0]; exact hb) (by rw [hid3]; exact hb2)
    subst this
    exact hd.1 (List.mem_map.2 ⟨e2, he2, by rw [← hid3, hid0]⟩)

/-- the names that a state's own objects have -/
def idRho (own : List Ent) : List (Nat × Nat × Nat) := own.map fun e => (e.id, e.id, e.r)
def slotOK (φ : Nat → Nat → Option (Nat × Nat)) (emp : Bool) (d d' : DVal) : Prop := match d' with
  | .any => True
  | d' => if emp then d = d' else okD d ∧ renD φ d = d'
def slotsOK (φ : Nat → Nat → Option (Nat × Nat)) (emp : Bool) (l : List (Nat × DVal)) : List (Nat × DVal) → Prop
  | [] => True
  | p :: ps => slotOK φ emp (getS l p.1) p.2 ∧ slotsOK φ emp l ps

theorem idRho_mem {own : List Ent} {i j v : Nat} (h : (i, j, v) ∈ idRho own) : i = j ∧ ∃ e ∈ own, e.id = j ∧ e.r = v := by
  obtain ⟨e, he, h1⟩ := List.mem_map.1 h
  simp only [Prod.mk.injEq] at h1
  obtain ⟨rfl, rfl, rfl⟩ := h1
  exact ⟨rfl, e, he, rfl, rfl⟩

theorem Sub.lit {B : Base} {s s' : DS} (h : slotsOK (phiOf s.own (idRho s'.own)) s'.own.isEmpty s.slots s'.slots ∧ outE s.own (phiOf s.own (idRho s'.own)) (idRho s'.own) = some s'.own ∧ outOK s.own (idRho s'.own) ∧ (s'.own.map (·.id)).Nodup) : Sub B s s' := by
  obtain ⟨hs, ho, hk, nd⟩ := h
  intro a w loc R
  refine ⟨loc, ?_⟩
  have horig : ∀ e' ∈ s'.own, ∃ e, findE s.own e'.id = some e ∧ okO e.obj ∧ e'.obj = renO (phiOf s.own (idRho s'.own)) e.obj ∧ (e'.r = 1 ∨ (e'.r = 0 ∧ e.r = 0)) := by
    intro e' he'
    obtain ⟨i, j, v, e, h1, h2, h3⟩ := (outE_mem ho).1 e' he'
    obtain ⟨hij, _⟩ := idRho_mem h1
    subst hij
    obtain ⟨e2, g1, g2, g3⟩ := outOK_mem hk i i v h1
    rw [h2] at g1
    simp only [Option.some.injEq] at g1
    subst g1
    have e1 : e'.id = i := by rw [h3]
    have e3 : e'.r = v := by rw [h3]
    have e4 : e'.obj = renO (phiOf s.own (idRho s'.own)) e.obj := by rw [h3]
    refine ⟨e, by rw [e1]; exact h2, g2, e4, ?_⟩
    rw [e3]
    rcases g3 with g3 | g3
    · exact .inl g3
    · exact .inr ⟨g3.1, g3.2.2⟩
  have hids : ∀ e' ∈ s'.own, ∃ e0 ∈ s.own, e0.id = e'.id := by
    intro e' he'
    obtain ⟨e, h1, _⟩ := horig e' he'
    obtain ⟨h2, h3⟩ := findE_mem h1
    exact ⟨e, h2, h3⟩
  have hhot : ∀ b ∈ hotOf s'.own loc, b ∈ hotOf s.own loc := by
    intro b hb
    obtain ⟨e', he', h1⟩ := List.mem_flatMap.1 hb
    obtain ⟨e0, h2, h3⟩ := hids e' he'
    exact mem_hot h2 (by rw [h3]; exact h1)
  have hM : ∀ b ∈ hotOf s'.own loc ++ B.M0, b ∈ hotOf s.own loc ++ B.M0 := by
    intro b hb
    rcases List.mem_append.1 hb with h | h
    · exact List.mem_append_left _ (hhot b h)
    · exact List.mem_append_right _ h
  have W : Weak (cu s loc) (curOf s'.own loc) (hm s loc B.M0) (hotOf s'.own loc ++ B.M0) w.heap w.heap 0 :=
    ⟨fun id r l hr => by omega, fun b o _ (_ : isD o = true) ho => ho, fun b o hb (_ : isD o = true) _ hm' => hb (hM b hm')⟩
  have L : Leads (cu s loc) (curOf s'.own loc) (phiOf s.own (idRho s'.own)) := by
    intro i r p l hp hl
    obtain ⟨e, h1, h2, h3⟩ := phiOf_some hp
    obtain ⟨hij, _⟩ := idRho_mem h1
    obtain ⟨e', he', g1, g2, g3⟩ := curOf_some hl
    subst g3
    show curOf s.own loc i r = _
    unfold curOf
    rw [h2]
    simp [h3, hij]
  refine ⟨⟨nd, hot_nodup_ids R.st.bl _ nd hids, fun b hb => R.st.ap b (hhot b hb), fun b hb => R.st.lt b (hM b hb), fun e' he' => ?_⟩, R.upd, fun b hb => R.new b (hhot b hb), fun e' he' hr => ?_, ?_, R.nt, R.df.keep rfl (Upd.refl [] w) (by simp) (fun b hb => .inl (hM b hb))⟩
  · obtain ⟨e, h1, h2, h3, _⟩ := horig e' he'
    obtain ⟨hmem, hid⟩ := findE_mem h1
    rw [h3]
    exact ObjOK_ren W L h2 (by rw [hid]) (fun _ _ _ h => h) (R.st.ok e hmem)
  · obtain ⟨e, h1, _, _, h4⟩ := horig e' he'
    obtain ⟨hmem, hid⟩ := findE_mem h1
    have hN := B.hN
    rcases h4 with h4 | ⟨h4, h5⟩
    · omega
    · have := R.ver e hmem (by omega)
      rw [hid, h5] at this
      rw [h4]; exact this
  · intro i
    have hall : ∀ (l : List (Nat × DVal)), slotsOK (phiOf s.own (idRho s'.own)) s'.own.isEmpty s.slots l → slotOK (phiOf s.own (idRho s'.own)) s'.own.isEmpty (getS s.slots i) (getS l i) := by
      intro l
      induction l with
      | nil => intro _; simp [slotOK, getS]
      | cons p l ih =>
        intro hp
        simp only [slotsOK] at hp
        simp only [getS]
        split
        · rename_i h; rw [h]; exact hp.1
        · exact ih hp.2
    have h1 := hall s'.slots hs
    have hr := R.sl i
    generalize getS s'.slots i = d' at h1
    by_cases ha : d' = .any
    · subst ha; simp [rd]
    · have h2 : if s'.own.isEmpty = true then getS s.slots i = d' else okD (getS s.slots i) ∧ renD (phiOf s.own (idRho s'.own)) (getS s.slots i) = d' := by
        unfold slotOK at h1
        split at h1
        · exact absurd rfl ha
        · exact h1
      split at h2
      · rename_i he
        rw [h2] at hr
        have he' : s'.own = [] := by simpa using he
        exact rd_weak (n := mx d') ⟨fun id r l _ hl => by rw [he'] at hl; simp [curOf, findE] at hl, W.b, W.m⟩ _ _ (Nat.le_refl _) hr
      · rw [← h2.2]; exact rd_renD W L h2.1 hr

/-- a box's cell that holds nil, read as an own row of no elements -/
def adoptC (s : DS) (n bid c id et k bs : Nat) : DS := match findE s.own bid with
  | some e => match e.obj with
    | .box cs => ⟨s.slots, upE (upE s.own id n (.row et k bs [])) bid e.r (.box (cs.set c (.osl id n)))⟩
    | _ => s
  | none => s
def adoptOK (s : DS) (bid c : Nat) : Prop := match findE s.own bid with
  | some e => match e.obj with
    | .box cs => cs.getD c .any = .nilsl
    | _ => True
  | none => True
theorem DW_adoptC {P : Program} {B : Base} {Q : Exit → DS → Prop} {s : DS} {x : Code} (bid c id et k bs : Nat) (h : adoptOK s bid c ∧ bid ≠ id) (hk : ∀ n, DW P B x Q (adoptC s n bid c id et k bs)) : DW P B x Q s := by
  have hn := hk (lim B s)
  unfold adoptOK at h
  unfold adoptC at hn
  cases hf : findE s.own bid with
  | none => rw [hf] at hn; exact hn
  | some e =>
    rw [hf] at hn h
    obtain ⟨hm, hid⟩ := findE_mem hf
    cases hob : e.obj with
    | box cs =>
      simp only [hob] at hn h
      refine DW_sub (Sub.adoptCell bid c id et k bs (rb := e.r) (cs := cs) ?_ h.1 h.2) hn
      rw [hf, ← hid, ← hob]
    | row _ _ _ _ => simp only [hob] at hn; exact hn
    | map _ _ => simp only [hob] at hn; exact hn
    | abs _ => simp only [hob] at hn; exact hn
/-- a slot that holds nil, read as an own row of no elements -/
theorem DW_adoptS {P : Program} {B : Base} {Q : Exit → DS → Prop} {s : DS} {x : Code} (i id et k bs : Nat) (h : getS s.slots i = .nilsl ∧ i < B.nt) (hk : ∀ n, DW P B x Q ⟨(i, .osl id n) :: s.slots, upE s.own id n (.row et k bs [])⟩) : DW P B x Q s :=
  DW_sub (Sub.adoptSlot i id et k bs h.1 h.2) (hk (lim B s))


/-- a view of an own row's first elements, taken for the row -/
theorem Sub.truncSlot {B : Base} {s : DS} {i id r et k bs n : Nat} {es : List (List DVal)} {e : Ent} (h : getS s.slots i = .vw id r k bs 0 n) (he : findE s.own id = some e) (her : e.r = r) (hob : e.obj = .row et k bs es) (hn : n ≤ es.length) (hi : i < B.nt) :
    Sub B s ⟨(i, .osl id (lim B s)) :: s.slots, upE s.own id (lim B s) (.row et k bs (es.take n))⟩ := by
  intro a w loc R
  have hs := R.sl i
  rw [h] at hs
  obtain ⟨hmem, hid⟩ := findE_mem he
  obtain ⟨hcur, a0, cap0, hh, g1, g2, g3⟩ := row_form R.st he her hob
  simp only [rd] at hs
  obtain ⟨x, cap, hv, q1, q2, q3, q4, q5⟩ := hs _ hcur
  obtain ⟨n1, hh1⟩ := q5 trivial
  rw [hh] at hh1
  simp only [Value.slice.injEq] at hh1
  obtain ⟨rfl, _, rfl⟩ := hh1
  have hlen : (es.take n).length = n := by simp; omega
  have hk := R.st.ok e hmem
  rw [hob, hid] at hk
  obtain ⟨hbs, hk⟩ := hk
  have hL : ∀ b0, b0 ∈ (⟨(loc id).blks, a.tmps.getD i Go.undef⟩ : Loc).blks → b0 < w.heap.size ∧ ((∃ e ∈ s.own, e.id = id ∧ b0 ∈ (loc id).blks) ∨ w.heap.size ≤ b0) := fun b0 hb0 =>
    ⟨R.st.lt b0 (List.mem_append_left _ (mem_hot hmem (by rw [hid]; exact hb0))), .inl ⟨e, hmem, hid, hb0⟩⟩
  have W := R.weakUp (obj := .row et k bs (es.take n)) (L := ⟨(loc id).blks, a.tmps.getD i Go.undef⟩) (Nat.le_refl (lim B s)) (Upd.refl _ w) hL (.inl (Nat.le_refl _))
  have hmxo := (mem_mxE hmem).2
  rw [hob] at hmxo
  simp only [mxO] at hmxo
  have := R.up (id := id) (r := lim B s) (obj := .row et k bs (es.take n)) (L := ⟨(loc id).blks, a.tmps.getD i Go.undef⟩) (v := a.tmps.getD i Go.undef) (d := .osl id (lim B s)) (dst := some i) (Nat.le_refl _) (fun j hj => by simp only [Option.some.injEq] at hj; omega) (Upd.refl _ _) (fun _ _ _ => rfl) hL (.inl (Nat.le_refl _))
    (by
      refine ⟨by rw [hlen]; exact Nat.le_trans (Nat.mul_le_mul_right _ hn) hbs, ?_⟩
      rcases hk with ⟨rfl, h1, h2⟩ | ⟨b, arr, cap, h1, h2, h3, h4, h5, h6, h7⟩
      · rw [hh] at h2
        simp only [Value.slice.injEq] at h2
        obtain ⟨rfl, _, rfl⟩ := h2
        refine .inl ⟨by simp, h1, ?_⟩
        rw [hv]
        simp only [List.length_nil, Nat.le_zero] at hn
        rw [hn]
      · rw [hh] at h2
        simp only [Value.slice.injEq] at h2
        obtain ⟨rfl, _, rfl⟩ := h2
        refine .inr ⟨b, arr, _, h1, by rw [hlen]; exact hv, h3, by omega, h5, h6, ?_⟩
        refine rdR_mk _ _ _ _ fun q cs hq => ?_
        rw [List.getElem?_take] at hq
        split at hq
        · refine rdR_at k es arr 0 q cs (rdR_weak W k es arr 0 ?_ h7) hq
          unfold lim; omega
        · simp at hq)
    (by
      simp only [rd]
      intro l hl
      rw [curOf_up] at hl
      simp only [Option.some.injEq] at hl
      rw [← hl])
    (by have := blks_nodup R.st.bl e hmem; rwa [hid] at this)
  rw [put_same a i (by rw [R.nt]; exact hi)] at this
  exact ⟨_, this⟩
def truncOK (s : DS) (i : Nat) : Prop := match getS s.slots i with
  | .vw id r k bs 0 n => match findE s.own id with
    | some e => match e.obj with
      | .row _ k' bs' es => e.r = r ∧ k' = k ∧ bs' = bs ∧ n ≤ es.length
      | _ => False
    | none => False
  | _ => False
def truncS (s : DS) (i m : Nat) : DS := match getS s.slots i with
  | .vw id _ _ _ _ n => match findE s.own id with
    | some e => match e.obj with
      | .row et k bs es => ⟨(i, .osl id m) :: s.slots, upE s.own id m (.row et k bs (es.take n))⟩
      | _ => s
    | none => s
  | _ => s
theorem DW_truncS {P : Program} {B : Base} {Q : Exit → DS → Prop} {s : DS} {x : Code} (i : Nat) (h : truncOK s i ∧ i < B.nt) (hk : ∀ m, DW P B x Q (truncS s i m)) : DW P B x Q s := by
  have h1 := h.1
  have hk := hk (lim B s)
  unfold truncOK at h1
  unfold truncS at hk
  split at h1
  · rename_i id r k bs n hg
    rw [hg] at hk
    simp only at hk
    split at h1
    · rename_i e he
      rw [he] at hk
      simp only at hk
      split at h1
      · rename_i et k' bs' es hob
        rw [hob] at hk
        obtain ⟨her, rfl, rfl, hn⟩ := h1
        exact DW_sub (Sub.truncSlot hg he her hob hn h.2) hk
      · exact h1.elim
    · exact h1.elim
  · exact h1.elim
end Go.Dm
