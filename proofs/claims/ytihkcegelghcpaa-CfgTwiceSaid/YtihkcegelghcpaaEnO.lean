/- The data machine, second make, part O: a nil slice taken for an own row of no elements. -/
import Derived.Test.YtihkcegelghcpaaEnN
set_option linter.unusedSimpArgs false
set_option linter.unusedVariables false
namespace Go.Dm

section
variable {B : Base} {s : DS} {a : Act} {w : World} {loc : Nat → Loc}

theorem put_same (a : Act) (i : Nat) (hi : i < a.tmps.size) : a.put (some i) (a.tmps.getD i Go.undef) = a := by
  obtain ⟨tmps, defers⟩ := a
  unfold Act.put
  simp only
  congr 1
  apply Array.ext
  · simp
  · intro j h1 h2
    rw [Array.getElem_setIfInBounds h2]
    split
    · rename_i h; subst h; simp [Array.getD_eq_getD_getElem?, Array.getElem?_eq_getElem h2]
    · rfl

theorem Rel.adopt {id r et k bs : Nat} {dst : Option Nat} {v : Value} {d : DVal} (R : Rel B s a w loc) (hr : lim B s ≤ r) (hdst : ∀ i, dst = some i → i < B.nt)
    (hd : rd (curOf (upE s.own id r (.row et k bs [])) (upL loc id ⟨[], .slice none 0 0⟩)) (hotOf (upE s.own id r (.row et k bs [])) (upL loc id ⟨[], .slice none 0 0⟩) ++ B.M0) w.heap d v) :
    Rel B ⟨putS s.slots dst d, upE s.own id r (.row et k bs [])⟩ (a.put dst v) w (upL loc id ⟨[], .slice none 0 0⟩) :=
  R.up (L := ⟨[], .slice none 0 0⟩) (n := r) hr hdst (Upd.refl _ _) (fun b hb _ => rfl) (fun b hb => by simp at hb) (.inl (Nat.le_refl _)) ⟨by simp, .inl ⟨rfl, rfl, rfl⟩⟩ hd

/-- a slot that holds nil -/
theorem Sub.adoptSlot (i id et k bs : Nat) (h : getS s.slots i = .nilsl) (hi : i < B.nt) : Sub B s ⟨(i, .osl id (lim B s)) :: s.slots, upE s.own id (lim B s) (.row et k bs [])⟩ := by
  intro a w loc R
  have hs := R.sl i
  rw [h] at hs
  simp only [rd] at hs
  have := R.adopt (id := id) (et := et) (k := k) (bs := bs) (dst := some i) (v := a.tmps.getD i Go.undef) (d := .osl id (lim B s)) (Nat.le_refl _) (fun j hj => by simp only [Option.some.injEq] at hj; omega) (by
    simp only [rd]
    intro l hl
    rw [curOf_up] at hl
    simp only [Option.some.injEq] at hl
    rw [← hl, hs])
  rw [put_same a i (by rw [R.nt]; exact hi)] at this
  exact ⟨_, this⟩

/-- a box's cell is read in another way -/
theorem Rel.reBox {id : Nat} {e : Ent} {cs cs' : List DVal} (R : Rel B s a w loc) (he : findE s.own id = some e) (hob : e.obj = .box cs) (hlen : cs'.length = cs.length)
    (h : ∀ arr, rdC (cu s loc) (hm s loc B.M0) w.heap cs arr 0 → rdC (cu s loc) (hm s loc B.M0) w.heap cs' arr 0) : ∃ loc', Rel B ⟨s.slots, upE s.own id e.r (.box cs')⟩ a w loc' := by
  obtain ⟨hmem, hid⟩ := findE_mem he
  have hcur : curOf s.own loc id e.r = some (loc id) := by rw [← hid]; exact curOf_self R.st.nd hmem
  have hk := R.st.ok e hmem
  rw [hob] at hk
  obtain ⟨b, arr, ty, h1, h2, h3, h4⟩ := hk
  rw [hid] at h1
  have hL : ∀ b0, b0 ∈ (loc id).blks → b0 < w.heap.size ∧ ((∃ e ∈ s.own, e.id = id ∧ b0 ∈ (loc id).blks) ∨ w.heap.size ≤ b0) := by
    intro b0 hb0
    refine ⟨?_, .inl ⟨e, hmem, hid, hb0⟩⟩
    rw [h1] at hb0
    simp only [List.mem_singleton] at hb0
    subst hb0
    exact (Array.getElem?_eq_some_iff.1 h2).1
  have hloc : upL loc id (loc id) = loc := by
    funext j
    unfold upL
    split
    · rename_i hj; rw [hj]
    · rfl
  have W : Weak (cu s loc) (curOf (upE s.own id e.r (.box cs')) (upL loc id (loc id))) (hm s loc B.M0) (hotOf (upE s.own id e.r (.box cs')) (upL loc id (loc id)) ++ B.M0) w.heap w.heap (max (lim B s) (mxL cs')) := by
    refine weak_step (Upd.refl _ w) ?_ ?_
    · intro b hb
      obtain ⟨x, hx, h1'⟩ := List.mem_flatMap.1 hb
      rw [hloc] at h1'
      rcases List.mem_cons.1 hx with rfl | hx
      · exact .inl (mem_hot hmem (by rw [hid]; exact h1'))
      · exact .inl (mem_hot (mem_delE.1 hx).1 h1')
    · intro x hx _
      rw [hloc]
      rcases List.mem_cons.1 hx with rfl | hx
      · exact hcur
      · exact curOf_self R.st.nd (mem_delE.1 hx).1
  have R' := R.up (hLn := by rw [h1]; simp) (w' := w) (id := id) (r := e.r) (obj := .box cs') (L := loc id) (v := Go.undef) (d := .any) (dst := none) (n := lim B s) (Nat.le_refl _) (fun i hi => by simp at hi) (Upd.refl _ _) (fun _ _ _ => rfl) hL (.inr hcur)
    ⟨b, arr, ty, h1, h2, by rw [hlen]; exact h3, rdC_weak W cs' arr 0 (by omega) (h arr h4)⟩ (by simp [rd])
  exact ⟨_, R'⟩

theorem rdC_set {cur : Cur} {M : List Nat} {H : Array Obj} {d' : DVal} : ∀ (cs : List DVal) (arr : Array Value) (o c : Nat), (∀ v, rd cur M H (cs.getD c .any) v → rd cur M H d' v) → rdC cur M H cs arr o → rdC cur M H (cs.set c d') arr o
  | [], _, _, _, _, h => by simpa using h
  | d :: cs, arr, o, 0, hd, h => by
    simp only [rdC, List.set_cons_zero] at h ⊢
    obtain ⟨⟨v, h1, h2, h3⟩, h4⟩ := h
    exact ⟨⟨v, h1, h2, hd v (by simpa using h3)⟩, h4⟩
  | d :: cs, arr, o, c + 1, hd, h => by
    simp only [rdC, List.set_cons_succ] at h ⊢
    exact ⟨h.1, rdC_set cs arr (o + 1) c (by simpa using hd) h.2⟩

/-- a box's cell that holds nil -/
theorem Sub.adoptCell (bid c id et k bs : Nat) {rb : Nat} {cs : List DVal} (h : findE s.own bid = some ⟨bid, rb, .box cs⟩) (hc : cs.getD c .any = .nilsl) (hne : bid ≠ id) :
    Sub B s ⟨s.slots, upE (upE s.own id (lim B s) (.row et k bs [])) bid rb (.box (cs.set c (.osl id (lim B s))))⟩ := by
  intro a w loc R
  have R1 := R.adopt (id := id) (et := et) (k := k) (bs := bs) (dst := none) (v := Go.undef) (d := .any) (Nat.le_refl _) (fun i hi => by simp at hi) (by simp [rd])
  have hf : findE (upE s.own id (lim B s) (.row et k bs [])) bid = some ⟨bid, rb, .box cs⟩ := by
    have hdel : ∀ own : List Ent, findE (delE own id) bid = findE own bid := by
      intro own
      induction own with
      | nil => rfl
      | cons x t ih =>
        simp only [delE, findE]
        split
        · rename_i hx
          rw [ih, if_neg (by omega)]
        · simp only [findE]; rw [ih]
    simp only [upE, findE]
    rw [if_neg (fun h => hne h.symm), hdel]
    exact h
  exact Rel.reBox R1 hf rfl (by simp) (fun arr hr => rdC_set cs arr 0 c (by
    intro v hv
    rw [hc] at hv
    simp only [rd] at hv ⊢
    intro l hl
    have hl' : curOf (upE s.own id (lim B s) (.row et k bs [])) (upL loc id ⟨[], .slice none 0 0⟩) id (lim B s) = some l := hl
    rw [curOf_up] at hl'
    simp only [Option.some.injEq] at hl'
    rw [← hl', hv]) hr)
end
end Go.Dm
