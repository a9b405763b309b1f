/- Parts of a proof, laid together: EnI. -/
import Derived.Laws.AppendOwn
import Derived.Laws.OwnMore
import Derived.Deep.DeepAppendWide
import Derived.Test.YtedjakmhhlilaaaGreatqGx7
set_option linter.unusedSimpArgs false
set_option linter.unusedVariables false
set_option linter.unusedSectionVars false
section
namespace Go.Dm
variable [DMode]
def upE (own : List Ent) (id r : Nat) (obj : DObj) : List Ent := ⟨id, r, obj⟩ :: delE own id
def upL (loc : Nat → Loc) (id : Nat) (L : Loc) : Nat → Loc := fun j => if j = id then L else loc j
theorem mem_delE {own : List Ent} {id : Nat} {e : Ent} : e ∈ delE own id ↔ e ∈ own ∧ e.id ≠ id := by
 induction own with
 | nil => simp [delE]
 | cons a t ih =>
  simp only [delE]
  split
  ·rename_i h
   rw [ih, List.mem_cons]
   constructor
   ·rintro ⟨h1, h2⟩; exact ⟨.inr h1, h2⟩
   ·rintro ⟨rfl | h1, h2⟩
    ·exact absurd h h2
    ·exact ⟨h1, h2⟩
  ·rename_i h
   rw [List.mem_cons, ih, List.mem_cons]
   constructor
   ·rintro (rfl | ⟨h1, h2⟩)
    ·exact ⟨.inl rfl, h⟩
    ·exact ⟨.inr h1, h2⟩
   ·rintro ⟨rfl | h1, h2⟩
    ·exact .inl rfl
    ·exact .inr ⟨h1, h2⟩
theorem nodup_delE {own : List Ent} {id : Nat} (h : (own.map (·.id)).Nodup) : ((delE own id).map (·.id)).Nodup := by
 induction own with
 | nil => simp [delE]
 | cons a t ih =>
  simp only [List.map_cons, List.nodup_cons] at h
  simp only [delE]
  split
  ·exact ih h.2
  ·simp only [List.map_cons, List.nodup_cons]
   refine ⟨fun hm => ?_, ih h.2⟩
   obtain ⟨e, he, h1⟩ := List.mem_map.1 hm
   exact h.1 (List.mem_map.2 ⟨e, (mem_delE.1 he).1, h1⟩)
theorem fm_congr {α β : Type} {f g : α → List β} : ∀ {l : List α}, (∀ x ∈ l, f x = g x) → l.flatMap f = l.flatMap g
 | [], _ => rfl
 | a :: l, h => by
  rw [List.flatMap_cons, List.flatMap_cons, h a List.mem_cons_self, fm_congr (fun x hx => h x (List.mem_cons_of_mem _ hx))]
theorem hot_delE {own : List Ent} {loc : Nat → Loc} {id : Nat} {L : Loc} : hotOf (delE own id) (upL loc id L) = hotOf (delE own id) loc := by
 unfold hotOf
 refine fm_congr fun e he => ?_
 have := (mem_delE.1 he).2
 simp [upL, this]
theorem hot_sub {own : List Ent} {loc : Nat → Loc} {id : Nat} {b : Nat} (h : b ∈ hotOf (delE own id) loc) : ∃ e ∈ own, e.id ≠ id ∧ b ∈ (loc e.id).blks := by
 obtain ⟨e, he, h1⟩ := List.mem_flatMap.1 h
 have := mem_delE.1 he
 exact ⟨e, this.1, this.2, h1⟩
theorem St.up {own : List Ent} {loc : Nat → Loc} {M0 : List Nat} {w w' : World} {id r : Nat} {obj : DObj} {L : Loc} {n : Nat}
  (S : St own loc M0 w.heap) (hsz : w.heap.size ≤ w'.heap.size) (hLn : L.blks.Nodup)
  (hold : ∀ b, b < w.heap.size → (∀ e ∈ own, e.id = id → b ∉ (loc id).blks) → w'.heap[b]? = w.heap[b]?)
  (hL : ∀ b, b ∈ L.blks → b < w'.heap.size ∧ ((∃ e ∈ own, e.id = id ∧ b ∈ (loc id).blks) ∨ w.heap.size ≤ b))
  (hr : n ≤ r ∨ curOf own loc id r = some L) (hn : mxE own ≤ n)
  (hobj : ObjOK (curOf (upE own id r obj) (upL loc id L)) (hotOf (upE own id r obj) (upL loc id L) ++ M0) w'.heap L obj) :
  St (upE own id r obj) (upL loc id L) M0 w'.heap ∧ (∀ b ∈ hotOf (upE own id r obj) (upL loc id L), b ∈ hotOf own loc ∨ w.heap.size ≤ b) ∧
   (∀ e ∈ upE own id r obj, e.r < n → curOf own loc e.id e.r = some (upL loc id L e.id)) ∧ (∀ b, b < w.heap.size → b ∉ hotOf own loc → w'.heap[b]? = w.heap[b]?) := by
 have hnew : ∀ b ∈ hotOf (upE own id r obj) (upL loc id L), b ∈ hotOf own loc ∨ w.heap.size ≤ b := by
  intro b hb
  obtain ⟨e, he, h1⟩ := List.mem_flatMap.1 hb
  rcases List.mem_cons.1 he with rfl | he
  ·simp only [upL, if_true] at h1
   rcases (hL b h1).2 with ⟨e, he, hid, h2⟩ | h2
   ·exact .inl (mem_hot he (by rw [hid]; exact h2))
   ·exact .inr h2
  ·have := mem_delE.1 he
   simp only [upL, if_neg this.2] at h1
   exact .inl (mem_hot this.1 h1)
 have hver : ∀ e ∈ upE own id r obj, e.r < n → curOf own loc e.id e.r = some (upL loc id L e.id) := by
  intro e he hlt
  rcases List.mem_cons.1 he with rfl | he
  ·simp only [upL, if_true]
   rcases hr with h | h
   ·simp only at hlt; omega
   ·exact h
  ·have := mem_delE.1 he
   simp only [upL, if_neg this.2]
   exact curOf_self S.nd this.1
 have hblk : ∀ b, b < w.heap.size → b ∉ hotOf own loc → w'.heap[b]? = w.heap[b]? := fun b hb hnb => hold b hb (fun e he hid h => hnb (mem_hot he (by rw [hid]; exact h)))
 refine ⟨⟨?_, ?_, ?_, ?_, ?_⟩, hnew, hver, hblk⟩
 ·simp only [upE, List.map_cons, List.nodup_cons]
  refine ⟨fun hm => ?_, nodup_delE S.nd⟩
  obtain ⟨e, he, h1⟩ := List.mem_map.1 hm
  exact (mem_delE.1 he).2 h1
 ·unfold upE
  rw [hot_cons, hot_delE, List.nodup_append]
  simp only [upL, if_true]
  refine ⟨hLn, hot_nodup_sub S.bl _ (nodup_delE S.nd) (fun e he => (mem_delE.1 he).1), ?_⟩
  intro b hb b' hb' hbb
  subst hbb
  obtain ⟨e, he, hne, h1⟩ := hot_sub hb'
  rcases (hL b hb).2 with ⟨e2, he2, hid, h2⟩ | h2
  ·have := hot_inj S.bl e he e2 he2 b h1 (by rw [hid]; exact h2)
   subst this
   exact hne hid
  ·have := S.lt b (List.mem_append_left _ (mem_hot he h1))
   omega
 ·intro b hb hm
  rcases hnew b hb with h | h
  ·exact S.ap b h hm
  ·have := S.lt b (List.mem_append_right _ hm)
   omega
 ·intro b hb
  rcases List.mem_append.1 hb with h | h
  ·obtain ⟨e, he, h1⟩ := List.mem_flatMap.1 h
   rcases List.mem_cons.1 he with rfl | he
   ·simp only [upL, if_true] at h1
    exact (hL b h1).1
   ·have := mem_delE.1 he
    simp only [upL, if_neg this.2] at h1
    exact Nat.lt_of_lt_of_le (S.lt b (List.mem_append_left _ (mem_hot this.1 h1))) hsz
  ·exact Nat.lt_of_lt_of_le (S.lt b (List.mem_append_right _ h)) hsz
 ·intro e he
  rcases List.mem_cons.1 he with rfl | he
  ·simpa [upL] using hobj
  ·have hmem := mem_delE.1 he
   simp only [upL, if_neg hmem.2]
   have hU : Upd (hotOf own loc) w ⟨w'.heap, w.tape, w.drawn, w.os, w.output⟩ := ⟨rfl, rfl, rfl, fun _ => Nat.le_refl _, hsz, hblk⟩
   have W : Weak (curOf own loc) (curOf (upE own id r obj) (upL loc id L)) (hotOf own loc ++ M0) (hotOf (upE own id r obj) (upL loc id L) ++ M0) w.heap w'.heap n :=
    weak_step (w' := ⟨w'.heap, w.tape, w.drawn, w.os, w.output⟩) hU hnew hver
   have hmx := (mem_mxE hmem.1).2
   have keep : ∀ b o, b ∈ (loc e.id).blks → w.heap[b]? = some o → w'.heap[b]? = some o := by
    intro b o hb ho
    rw [hold b (Array.getElem?_eq_some_iff.1 ho).1 (fun e2 he2 hid h2 => ?_)]
    ·exact ho
    ·have := hot_inj S.bl e hmem.1 e2 he2 b hb (by rw [hid]; exact h2)
     subst this
     exact hmem.2 hid
   exact ObjOK_weak W (by omega) keep (S.ok e hmem.1)
section
variable {P : Program} {B : Base} {s : DS} {a : Act} {w : World} {loc : Nat → Loc}
noncomputable def lim (B : Base) (s : DS) : Nat := max B.N (max (mxS s.slots) (mxE s.own))
theorem Rel.up {w' : World} {id r : Nat} {obj : DObj} {L : Loc} {v : Value} {d : DVal} {dst : Option Nat} {n : Nat}
  (R : Rel B s a w loc) (hlim : lim B s ≤ n) (hdst : ∀ i, dst = some i → i < B.nt) (hw : Upd (hotOf s.own loc) w w')
  (hold : ∀ b, b < w.heap.size → (∀ e ∈ s.own, e.id = id → b ∉ (loc id).blks) → w'.heap[b]? = w.heap[b]?)
  (hL : ∀ b, b ∈ L.blks → b < w'.heap.size ∧ ((∃ e ∈ s.own, e.id = id ∧ b ∈ (loc id).blks) ∨ w.heap.size ≤ b))
  (hr : n ≤ r ∨ curOf s.own loc id r = some L)
  (hobj : ObjOK (curOf (upE s.own id r obj) (upL loc id L)) (hotOf (upE s.own id r obj) (upL loc id L) ++ B.M0) w'.heap L obj)
  (hd : rd (curOf (upE s.own id r obj) (upL loc id L)) (hotOf (upE s.own id r obj) (upL loc id L) ++ B.M0) w'.heap d v) (hLn : L.blks.Nodup := by simp) :
  Rel B ⟨putS s.slots dst d, upE s.own id r obj⟩ (a.put dst v) w' (upL loc id L) := by
 unfold lim at hlim
 obtain ⟨h1, h2, h3, _⟩ := R.st.up hw.size hLn hold hL hr (by omega) hobj
 exact R.step (n := n) (by omega) (by omega) hdst h1 hw h2 h3 hd
theorem Rel.weakUp {w' : World} {id r : Nat} {obj : DObj} {L : Loc} {n : Nat} (R : Rel B s a w loc) (hlim : lim B s ≤ n) (hw : Upd (hotOf s.own loc) w w')
  (hL : ∀ b, b ∈ L.blks → b < w'.heap.size ∧ ((∃ e ∈ s.own, e.id = id ∧ b ∈ (loc id).blks) ∨ w.heap.size ≤ b))
  (hr : n ≤ r ∨ curOf s.own loc id r = some L) : Weak (cu s loc) (curOf (upE s.own id r obj) (upL loc id L)) (hm s loc B.M0) (hotOf (upE s.own id r obj) (upL loc id L) ++ B.M0) w.heap w'.heap n := by
 refine weak_step hw ?_ ?_
 ·intro b hb
  obtain ⟨e, he, h1⟩ := List.mem_flatMap.1 hb
  rcases List.mem_cons.1 he with rfl | he
  ·simp only [upL, if_true] at h1
   rcases (hL b h1).2 with ⟨e, he, hid, h2⟩ | h2
   ·exact .inl (mem_hot he (by rw [hid]; exact h2))
   ·exact .inr h2
  ·have := mem_delE.1 he
   simp only [upL, if_neg this.2] at h1
   exact .inl (mem_hot this.1 h1)
 ·intro e he hlt
  rcases List.mem_cons.1 he with rfl | he
  ·simp only [upL, if_true]
   rcases hr with h | h
   ·simp only at hlt; omega
   ·exact h
  ·have := mem_delE.1 he
   simp only [upL, if_neg this.2]
   exact curOf_self R.st.nd this.1
theorem curOf_up (id r : Nat) (obj : DObj) (own : List Ent) (loc : Nat → Loc) (L : Loc) : curOf (upE own id r obj) (upL loc id L) id r = some L := by
 simp [curOf, upE, findE, upL]
theorem rdC_of {cur : Cur} {M : List Nat} {H : Array Obj} : ∀ (cs : List DVal) (us pre post : List Value), rdV cur M H cs us → (∀ u ∈ us, u.oneCell' = true) → rdC cur M H cs (pre ++ us ++ post).toArray pre.length
 | [], _, _, _, _, _ => by simp [rdC]
 | d :: ds, us, pre, post, hr, ho => by
  simp only [rdV] at hr
  obtain ⟨v, r, rfl, h1, h2⟩ := hr
  simp only [rdC]
  refine ⟨⟨v, by simp, ho v List.mem_cons_self, h1⟩, ?_⟩
  have := rdC_of ds r (pre ++ [v]) post h2 (fun u hu => ho u (List.mem_cons_of_mem _ hu))
  simpa using this
theorem Upd.alloc' (H : List Nat) (w : World) (o : Obj) : Upd H w (w.alloc o) := Upd.alloc H w o
theorem Rel.newBox {id n : Nat} {cs : List DVal} {us : List Value} {ty : TypeId} {dst : Option Nat} (R : Rel B s a w loc) (hlim : lim B s ≤ n) (hmx : mxL cs ≤ n) (hdst : ∀ i, dst = some i → i < B.nt)
  (hus : rdV (cu s loc) (hm s loc B.M0) w.heap cs us) (hone : ∀ u ∈ us, u.oneCell' = true) :
  Rel B ⟨putS s.slots dst (.bx id n 0), upE s.own id n (.box cs)⟩ (a.put dst (.pointer (some ⟨w.heap.size, 0, none⟩))) (w.alloc (.cells us.toArray ty)) (upL loc id ⟨[w.heap.size], Go.undef⟩) := by
 have hw := Upd.alloc' (hotOf s.own loc) w (.cells us.toArray ty)
 have hL : ∀ b, b ∈ (⟨[w.heap.size], Go.undef⟩ : Loc).blks → b < (w.alloc (.cells us.toArray ty)).heap.size ∧ ((∃ e ∈ s.own, e.id = id ∧ b ∈ (loc id).blks) ∨ w.heap.size ≤ b) := by
  intro b hb
  simp only [List.mem_singleton] at hb
  subst hb
  exact ⟨by simp, .inr (Nat.le_refl _)⟩
 have W := R.weakUp (obj := .box cs) hlim hw hL (.inl (Nat.le_refl _))
 refine R.up hlim hdst hw (fun b hb _ => by simp only [World.alloc, Array.getElem?_push]; rw [if_neg (by omega)]) hL (.inl (Nat.le_refl _)) ?_ ?_
 ·refine ⟨w.heap.size, us.toArray, ty, rfl, heap_alloc_new w _, by have := rdV_length _ _ hus; simpa using this, ?_⟩
  have := rdC_of cs us [] [] (rdV_weak W cs us hmx hus) hone
  simpa using this
 ·simp only [rd]
  intro l hl
  rw [curOf_up] at hl
  simp only [Option.some.injEq] at hl
  subst hl
  exact ⟨_, rfl, rfl⟩
theorem run_storeVar {b off : Nat} {arr : Array Value} {ty t : TypeId} {v : Value} (hh : w.heap[b]? = some (.cells arr ty (0, 0))) (hc : tCells P t = some v.cells.size) (hfit : off + v.cells.size ≤ arr.size) (hone : ∀ u ∈ v.cells.toList, u.oneCell' = true) :
  (Instr.storeAt t (.pointer (some ⟨b, off, none⟩)) v).run P w = .ok () (w.setRow b (arr.toList.take off ++ v.cells.toList ++ arr.toList.drop (off + v.cells.size)).toArray) := by
 have hst := run_storeCells_at P b off ty v.cells.toList 0 arr w hh (by simpa using hfit) hone
 simp only [Nat.add_zero, Array.length_toList] at hst
 simp [Instr.storeAt, Instr.sureAddr, storeVar, run_sizeOf' hc, hst]
theorem Upd.setRow {own : List Ent} {loc : Nat → Loc} {e : Ent} {b : Nat} (he : e ∈ own) (hb : b ∈ (loc e.id).blks) (w : World) (cs : Array Value) : Upd (hotOf own loc) w (w.setRow b cs) :=
 ⟨rfl, rfl, rfl, fun _ => Nat.le_refl _, by simp, fun b' _ hn => setRow_other w b b' cs (fun h => hn (by rw [h]; exact mem_hot he hb))⟩
theorem rdC_same {cur : Cur} {M : List Nat} {H : Array Obj} : ∀ (cs : List DVal) (arr arr' : Array Value) (o o' : Nat), (∀ j, j < cs.length → arr'[o' + j]? = arr[o + j]?) → rdC cur M H cs arr o → rdC cur M H cs arr' o'
 | [], _, _, _, _, _, _ => by simp [rdC]
 | d :: cs, arr, arr', o, o', h, hr => by
  simp only [rdC] at hr ⊢
  obtain ⟨⟨v, h1, h2, h3⟩, h4⟩ := hr
  refine ⟨⟨v, by have := h 0 (by simp); simp only [Nat.add_zero] at this; rw [this]; exact h1, h2, h3⟩, rdC_same cs arr arr' (o + 1) (o' + 1) (fun j hj => ?_) h4⟩
  have := h (j + 1) (by simp; omega)
  rwa [show o' + (j + 1) = o' + 1 + j by omega, show o + (j + 1) = o + 1 + j by omega] at this
theorem rdC_app {cur : Cur} {M : List Nat} {H : Array Obj} : ∀ (a b : List DVal) (arr : Array Value) (o : Nat), rdC cur M H a arr o → rdC cur M H b arr (o + a.length) → rdC cur M H (a ++ b) arr o
 | [], b, arr, o, _, h => by simpa using h
 | d :: a, b, arr, o, h1, h2 => by
  simp only [rdC, List.cons_append] at h1 ⊢
  refine ⟨h1.1, rdC_app a b arr (o + 1) h1.2 ?_⟩
  simpa [Nat.add_assoc, Nat.add_comm 1] using h2
theorem mxL_append : ∀ (a b : List DVal), mxL (a ++ b) = max (mxL a) (mxL b)
 | [], b => by simp [mxL]
 | d :: a, b => by simp only [List.cons_append, mxL, mxL_append a b]; omega
theorem mxL_take : ∀ (n : Nat) (a : List DVal), mxL (a.take n) ≤ mxL a
 | 0, a => by simp [mxL]
 | n + 1, [] => by simp [mxL]
 | n + 1, d :: a => by simp only [List.take_succ_cons, mxL]; have := mxL_take n a; omega
theorem mxL_drop : ∀ (n : Nat) (a : List DVal), mxL (a.drop n) ≤ mxL a
 | 0, a => by simp
 | n + 1, [] => by simp
 | n + 1, d :: a => by simp only [List.drop_succ_cons, mxL]; have := mxL_drop n a; omega
theorem splice_mx (cells : List DVal) (off : Nat) (cs : List DVal) : mxL (splice cells off cs) ≤ max (mxL cells) (mxL cs) := by
 unfold splice
 rw [mxL_append, mxL_append]
 have := mxL_take off cells
 have := mxL_drop (off + cs.length) cells
 omega
theorem ev_mx (l : List (Nat × DVal)) (x : Operand) : mx (ev l x) ≤ mxS l := by
 cases x with
 | tmp t => exact mx_getS l t
 | const v =>
  have h1 : ∀ v, mx (ofV1 v) = 0 := by
   intro v
   unfold ofV1
   split <;> (try split) <;> simp [mx]
  simp only [ev, ofV]
  split
  ·rename_i cs
   simp only [mx]
   have : ∀ l : List Value, mxL (l.map ofV1) = 0 := by
    intro l
    induction l with
    | nil => simp [mxL]
    | cons v l ih => simp [mxL, h1, ih]
   rw [this]; omega
  ·rw [h1]; omega
 | global g => simp [ev, mx]
 | func f => simp [ev, mx, mxL]
theorem mx_cellsD (d : DVal) : mxL (cellsD d) = mx d := by
 cases d <;> simp [cellsD, mx, mxL]
theorem mxR_le' {n : Nat} : ∀ {l : List (List DVal)}, (∀ d ∈ l, mxL d ≤ n) → mxR l ≤ n
 | [], _ => by simp [mxR]
 | x :: l, h => by
  simp only [mxR]
  have := h x List.mem_cons_self
  have := mxR_le' (l := l) fun d hd => h d (List.mem_cons_of_mem _ hd)
  omega
theorem findE_ent {own : List Ent} {id : Nat} {e : Ent} (h : findE own id = some e) : e ∈ own ∧ e.id = id := findE_mem h
theorem Rel.storeBox {id r off n : Nat} {cs : List DVal} {e : Ent} {d : DVal} {t : TypeId} {v : Value} {ad : Value} (R : Rel B s a w loc) (he : findE s.own id = some e) (her : e.r = r) (hob : e.obj = .box cs)
  (ha : Rds s loc B.M0 w (.bx id r off) ad) (hd : Rds s loc B.M0 w d v) (hp : plainD s.own d = true) (hc : tCells P t = some (cellsD d).length) (hfit : off + (cellsD d).length ≤ cs.length) (hmx : mx d ≤ mxS s.slots) (hn : lim B s ≤ n) :
  ∃ w', (Instr.storeAt t ad v).run P w = .ok () w' ∧ Rel B ⟨s.slots, upE s.own id r (.box (splice cs off (cellsD d)))⟩ a w' (upL loc id (loc id)) := by
 obtain ⟨hmem, hid⟩ := findE_ent he
 have hk := R.st.ok e hmem
 rw [hob] at hk
 obtain ⟨b, arr, ty, h1, h2, h3, h4⟩ := hk
 rw [hid] at h1
 have hcur : curOf s.own loc id r = some (loc id) := by unfold curOf; rw [he]; simp [her]
 simp only [Rds, rd] at ha
 obtain ⟨b', hb', rfl⟩ := ha _ hcur
 have hb1 : b ∈ (loc id).blks := by rw [h1]; simp
 rw [h1] at hb'
 simp only [List.cons.injEq, and_true] at hb'
 subst hb'
 obtain ⟨hcv, hone⟩ := cells_of R.st hp hd
 have hlv := rdV_length _ _ hcv
 simp only [Array.length_toList] at hlv
 have hrun := run_storeVar (P := P) (w := w) (b := b) (off := off) (t := t) (v := v) h2 (by rw [hc, hlv]) (by omega) hone
 refine ⟨_, hrun, ?_⟩
 have hw : Upd (hotOf s.own loc) w (w.setRow b (arr.toList.take off ++ v.cells.toList ++ arr.toList.drop (off + v.cells.size)).toArray) := Upd.setRow hmem (by rw [hid]; exact hb1) w _
 have hL : ∀ b0, b0 ∈ (loc id).blks → b0 < (w.setRow b (arr.toList.take off ++ v.cells.toList ++ arr.toList.drop (off + v.cells.size)).toArray).heap.size ∧ ((∃ e ∈ s.own, e.id = id ∧ b0 ∈ (loc id).blks) ∨ w.heap.size ≤ b0) := by
  intro b0 hb0
  refine ⟨?_, .inl ⟨e, hmem, hid, hb0⟩⟩
  rw [h1] at hb0
  simp only [List.mem_singleton] at hb0
  subst hb0
  have := (Array.getElem?_eq_some_iff.1 h2).1
  simpa using this
 have W := R.weakUp (obj := .box (splice cs off (cellsD d))) hn hw hL (.inr hcur)
 have hmxo := (mem_mxE hmem).2
 rw [hob] at hmxo
 simp only [mxO] at hmxo
 unfold lim at hn
 refine R.up (hLn := by rw [h1]; simp) (dst := none) (v := Go.undef) (d := .any) (n := n) (by unfold lim; exact hn) (fun i hi => by simp at hi) hw ?_ hL (.inr hcur) ?_ (by simp [rd])
 ·intro b0 hb0 hne
  refine setRow_other w b b0 _ (fun h => hne e hmem hid ?_)
  rw [h]; exact hb1
 ·refine ⟨b, _, ty, h1, setRow_heap w b arr _ ty (0, 0) h2, ?_, ?_⟩
  ·simp [splice, h3, ← hlv]
  ·unfold splice
   have l1 : (arr.toList.take off).length = off := by simp; omega
   refine rdC_app _ _ _ _ (rdC_app _ _ _ _ ?_ ?_) ?_
   ·refine rdC_same _ arr _ 0 0 (fun j hj => ?_) (rdC_take off _ _ _ (rdC_weak W cs arr 0 (by omega) h4))
    have hj' : j < off := by simp at hj; omega
    simp only [Nat.zero_add, List.getElem?_toArray, List.append_assoc]
    rw [List.getElem?_append_left (by omega), List.getElem?_take_of_lt hj']
    simp
   ·have hrd := rdC_of (cellsD d) v.cells.toList (arr.toList.take off) (arr.toList.drop (off + v.cells.size)) (rdV_weak W _ _ (by rw [mx_cellsD]; omega) hcv) hone
    have e1 : 0 + (cs.take off).length = (arr.toList.take off).length := by simp; omega
    rw [e1]; exact hrd
   ·have hdr := rdC_drop (off + (cellsD d).length) cs arr 0 (rdC_weak W cs arr 0 (by omega) h4)
    have e1 : 0 + (cs.take off ++ cellsD d).length = 0 + (off + (cellsD d).length) := by simp; omega
    rw [e1]
    refine rdC_same _ arr _ _ _ (fun j hj => ?_) hdr
    simp only [Nat.zero_add, List.getElem?_toArray]
    rw [List.getElem?_append_right (by simp; omega), List.getElem?_drop]
    have e2 : off + (cellsD d).length + j - (arr.toList.take off ++ v.cells.toList).length = j := by simp; omega
    rw [e2, hlv]
    simp
theorem rdR_vals {cur : Cur} {M : List Nat} {H : Array Obj} (k : Nat) : ∀ (es : List (List DVal)) (arr : Array Value) (o : Nat), rdR cur M H k es arr o →
  ∃ rows : List (List Value), rows.length = es.length ∧ rows.flatten.length = es.length * k ∧ (∀ (i : Nat) (cs : List DVal) (us : List Value), es[i]? = some cs → rows[i]? = some us → cs.length = k ∧ rdV cur M H cs us ∧ ∀ u ∈ us, u.oneCell' = true) ∧
   (∀ j v, rows.flatten[j]? = some v → arr[o + j]? = some v ∧ v.oneCell' = true)
 | [], arr, o, _ => ⟨[], rfl, by simp, by simp, by simp⟩
 | c :: es, arr, o, hr => by
  simp only [rdR] at hr
  obtain ⟨h1, h2, h3⟩ := hr
  obtain ⟨vs, g1, g2, g3⟩ := rdC_vals c arr o h2
  obtain ⟨rows, k1, k2, k3, k4⟩ := rdR_vals k es arr (o + k) h3
  refine ⟨vs :: rows, by simp [k1], by simp only [List.flatten_cons, List.length_append, k2, List.length_cons, Nat.add_mul]; omega, ?_, ?_⟩
  ·intro i cs us hi hu
   cases i with
   | zero =>
    simp only [List.getElem?_cons_zero, Option.some.injEq] at hi hu
    subst hi; subst hu
    refine ⟨h1, g2, fun u hu => ?_⟩
    obtain ⟨j, hj, rfl⟩ := List.getElem_of_mem hu
    exact (g3 j _ (List.getElem?_eq_getElem hj)).2
   | succ i => exact k3 i cs us (by simpa using hi) (by simpa using hu)
  ·intro j v hj
   simp only [List.flatten_cons] at hj
   by_cases hlt : j < vs.length
   ·rw [List.getElem?_append_left hlt] at hj
    exact g3 j v hj
   ·rw [List.getElem?_append_right (by omega)] at hj
    have := k4 _ v hj
    rwa [show o + k + (j - vs.length) = o + j by omega] at this
theorem rdR_of {cur : Cur} {M : List Nat} {H : Array Obj} (k : Nat) (es : List (List DVal)) (rows : List (List Value)) (post : List Value) (hl : rows.length = es.length)
  (h : ∀ (i : Nat) (cs : List DVal) (us : List Value), es[i]? = some cs → rows[i]? = some us → cs.length = k ∧ rdV cur M H cs us ∧ ∀ u ∈ us, u.oneCell' = true) : rdR cur M H k es (rows.flatten ++ post).toArray 0 := by
 have key : ∀ (es : List (List DVal)) (rows : List (List Value)) (pre : List Value), rows.length = es.length →
   (∀ (i : Nat) (cs : List DVal) (us : List Value), es[i]? = some cs → rows[i]? = some us → cs.length = k ∧ rdV cur M H cs us ∧ ∀ u ∈ us, u.oneCell' = true) → rdR cur M H k es (pre ++ rows.flatten ++ post).toArray pre.length := by
  intro es
  induction es with
  | nil => intros; simp [rdR]
  | cons c es ih =>
   intro rows pre hl h
   cases rows with
   | nil => simp at hl
   | cons u rows =>
    have h0 := h 0 c u (by simp) (by simp)
    have hlen := rdV_length _ _ h0.2.1
    simp only [rdR]
    refine ⟨h0.1, ?_, ?_⟩
    ·have := rdC_of c u pre (rows.flatten ++ post) h0.2.1 h0.2.2
     simpa using this
    ·have := ih rows (pre ++ u) (by simpa using hl) (fun i cs us h1 h2 => h (i + 1) cs us (by simpa using h1) (by simpa using h2))
     have e : (pre ++ u).length = pre.length + k := by simp [hlen, h0.1]
     rw [e] at this
     simpa using this
 simpa using key es rows [] hl h
theorem mxR_append : ∀ (a b : List (List DVal)), mxR (a ++ b) = max (mxR a) (mxR b)
 | [], b => by simp [mxR]
 | d :: a, b => by simp only [List.cons_append, mxR, mxR_append a b]; omega
def rowsN (own : List Ent) (d : DVal) : Option (Nat × List (List DVal)) :=
 match d with
 | .nilsl => some (0, [])
 | .esl => some (0, [])
 | d => (rowsOf own d).map fun x => (x.1, x.2.2)
theorem mxR_drop : ∀ (m : Nat) (l : List (List DVal)), mxR (l.drop m) ≤ mxR l
 | 0, l => by simp
 | m + 1, [] => by simp
 | m + 1, d :: l => by simp only [List.drop_succ_cons, mxR]; have := mxR_drop m l; omega
theorem mxR_take : ∀ (m : Nat) (l : List (List DVal)), mxR (l.take m) ≤ mxR l
 | 0, l => by simp [mxR]
 | m + 1, [] => by simp
 | m + 1, d :: l => by simp only [List.take_succ_cons, mxR]; have := mxR_take m l; omega
theorem rowsOf_mx {own : List Ent} {d : DVal} {k bs : Nat} {es : List (List DVal)} (h : rowsOf own d = some (k, bs, es)) : mxR es ≤ max (mx d) (mxE own) := by
 unfold rowsOf at h
 split at h
 ·simp only [Option.some.injEq, Prod.mk.injEq] at h
  obtain ⟨_, _, rfl⟩ := h
  simp only [mx]; omega
 ·split at h
  ·rename_i e he
   split at h
   ·split at h
    ·rename_i hob
     simp only [Option.some.injEq, Prod.mk.injEq] at h
     obtain ⟨_, _, rfl⟩ := h
     have := (mem_mxE (findE_ent he).1).2
     rw [hob] at this
     simp only [mxO] at this
     omega
    ·simp at h
   ·simp at h
  ·simp at h
 ·split at h
  ·rename_i e he
   split at h
   ·split at h
    ·rename_i hob
     split at h
     ·simp only [Option.some.injEq, Prod.mk.injEq] at h
      obtain ⟨_, _, rfl⟩ := h
      have := (mem_mxE (findE_ent he).1).2
      rw [hob] at this
      simp only [mxO] at this
      exact Nat.le_trans (mxR_take _ _) (Nat.le_trans (mxR_drop _ _) (by omega))
     ·simp at h
    ·simp at h
   ·simp at h
  ·simp at h
 ·simp at h
theorem src_ok (S : St s.own loc B.M0 w.heap) {d : DVal} {v : Value} {k : Nat} {es : List (List DVal)} (hd : Rds s loc B.M0 w d v) (h : rowsN s.own d = some (k, es)) :
  ∃ (rows : List (List Value)), rows.length = es.length ∧ (∀ (i : Nat) (cs : List DVal) (us : List Value), es[i]? = some cs → rows[i]? = some us → cs.length = k ∧ rdV (cu s loc) (hm s loc B.M0) w.heap cs us ∧ ∀ u ∈ us, u.oneCell' = true) ∧
   rows.flatten.length = es.length * k ∧ (∀ u ∈ rows.flatten, u.oneCell' = true) ∧ es.length ≤ maxLen ∧
   ((es = [] ∧ ∃ x cap, v = .slice x 0 cap) ∨ ∃ ad cap, v = .slice (some ad) es.length cap ∧ ∀ j u, rows.flatten[j]? = some u → w.cell? (ad.add j) = some u) := by
 unfold rowsN at h
 have gen : ∀ bs, rowsOf s.own d = some (k, bs, es) → _ := fun bs hr => rowsOf_ok (k := k) (bs := bs) (es := es) S hd hr
 have fin : (rowsOf s.own d).map (fun x => (x.1, x.2.2)) = some (k, es) → ∃ (rows : List (List Value)), rows.length = es.length ∧ (∀ (i : Nat) (cs : List DVal) (us : List Value), es[i]? = some cs → rows[i]? = some us → cs.length = k ∧ rdV (cu s loc) (hm s loc B.M0) w.heap cs us ∧ ∀ u ∈ us, u.oneCell' = true) ∧
   rows.flatten.length = es.length * k ∧ (∀ u ∈ rows.flatten, u.oneCell' = true) ∧ es.length ≤ maxLen ∧
   ((es = [] ∧ ∃ x cap, v = .slice x 0 cap) ∨ ∃ ad cap, v = .slice (some ad) es.length cap ∧ ∀ j u, rows.flatten[j]? = some u → w.cell? (ad.add j) = some u) := by
  intro hm'
  rw [Option.map_eq_some_iff] at hm'
  obtain ⟨⟨k', bs, es'⟩, hr, he⟩ := hm'
  simp only [Prod.mk.injEq] at he
  obtain ⟨rfl, rfl⟩ := he
  obtain ⟨x, cap, rfl, h2, h3, h4, h5⟩ := rowsOf_ok S hd hr
  rcases h5 with rfl | ⟨b, off, arr, ty, fz, rfl, g2, g3⟩
  ·exact ⟨[], rfl, by simp, by simp, by simp, Nat.zero_le _, .inl ⟨rfl, _, _, rfl⟩⟩
  ·obtain ⟨rows, r1, r2, r3, r4⟩ := rdR_vals k' es' arr off g3
   refine ⟨rows, r1, r3, r2, ?_, by omega, .inr ⟨_, cap, rfl, ?_⟩⟩
   ·intro u hu
    obtain ⟨j, hj, rfl⟩ := List.getElem_of_mem hu
    exact (r4 j _ (List.getElem?_eq_getElem hj)).2
   ·intro j u hj
    rw [add_lit]
    simp only [World.cell?, g2]
    exact (r4 j u hj).1
 split at h
 ·simp only [Option.some.injEq, Prod.mk.injEq] at h
  obtain ⟨rfl, rfl⟩ := h
  simp only [Rds, rd] at hd
  subst hd
  exact ⟨[], rfl, by simp, by simp, by simp, Nat.zero_le _, .inl ⟨rfl, _, _, rfl⟩⟩
 ·simp only [Option.some.injEq, Prod.mk.injEq] at h
  obtain ⟨rfl, rfl⟩ := h
  simp only [Rds, rd] at hd
  obtain ⟨ad, cap, rfl, _⟩ := hd
  exact ⟨[], rfl, by simp, by simp, by simp, Nat.zero_le _, .inl ⟨rfl, _, _, rfl⟩⟩
 ·exact fin h
def tElemId (P : Program) (t : TypeId) : Option TypeId := match P.underlying t with | some (.slice e) => some e | _ => none
def zeroOK (P : Program) (t : TypeId) : Bool := match P.underlying t with
 | some (.slice e) => match P.info? e with
  | some i => match i.zero with | some z => z.cells.size == i.size | none => false
  | none => false
 | _ => false
theorem run_append_zero {t ty e : TypeId} {i : TypeInfo} (hu : P.underlying t = some (.slice e)) (hi : P.info? e = some i) {x y : Option Addr} {m cap cap2 : Nat} (hm' : m ≤ cap) :
  (Builtin.append_ #[t, t] ty #[.slice y m cap, .slice x 0 cap2]).run P w = .ok (.slice y m cap) w := by
 cases x <;> cases y <;> simp [Builtin.append_, run_underlying hu, sizeOf, typeInfo, hi, Builtin.lenOf, Builtin.firstCells, hm', storeCells, loadCells, loadCellsFrom]
theorem take_flat {arr : Array Value} {rows : List (List Value)} {m : Nat} (hl : rows.flatten.length = m) (h : ∀ j v, rows.flatten[j]? = some v → arr[0 + j]? = some v ∧ v.oneCell' = true) (hm' : m ≤ arr.size) : arr.toList.take m = rows.flatten := by
 apply List.ext_getElem?
 intro j
 by_cases hj : j < m
 ·rw [List.getElem?_take_of_lt hj]
  have hj' : j < rows.flatten.length := by omega
  have := (h j _ (List.getElem?_eq_getElem hj')).1
  rw [Nat.zero_add] at this
  rw [List.getElem?_eq_getElem hj', ← this]
  simp
 ·rw [List.getElem?_eq_none (by simp; omega), List.getElem?_eq_none (by omega)]
theorem joinRows {cur : Cur} {M : List Nat} {H : Array Obj} {k : Nat} {es es2 : List (List DVal)} {rows rows2 : List (List Value)} (l1 : rows.length = es.length) (l2 : rows2.length = es2.length)
  (h1 : ∀ (i : Nat) (cs : List DVal) (us : List Value), es[i]? = some cs → rows[i]? = some us → cs.length = k ∧ rdV cur M H cs us ∧ ∀ u ∈ us, u.oneCell' = true)
  (h2 : ∀ (i : Nat) (cs : List DVal) (us : List Value), es2[i]? = some cs → rows2[i]? = some us → cs.length = k ∧ rdV cur M H cs us ∧ ∀ u ∈ us, u.oneCell' = true) (post : List Value) :
  rdR cur M H k (es ++ es2) (rows.flatten ++ rows2.flatten ++ post).toArray 0 := by
 rw [← List.flatten_append]
 refine rdR_of k _ _ _ (by simp [l1, l2]) ?_
 intro i cs us hc hu
 by_cases hi : i < es.length
 ·rw [List.getElem?_append_left hi] at hc
  rw [List.getElem?_append_left (by omega)] at hu
  exact h1 i cs us hc hu
 ·rw [List.getElem?_append_right (by omega)] at hc
  rw [List.getElem?_append_right (by omega)] at hu
  rw [l1] at hu
  exact h2 _ cs us hc hu
theorem weak_rows {cur cur' : Cur} {M M' : List Nat} {H H' : Array Obj} {n k : Nat} (W : Weak cur cur' M M' H H' n) {es : List (List DVal)} {rows : List (List Value)} (hm' : mxR es ≤ n)
  (h : ∀ (i : Nat) (cs : List DVal) (us : List Value), es[i]? = some cs → rows[i]? = some us → cs.length = k ∧ rdV cur M H cs us ∧ ∀ u ∈ us, u.oneCell' = true) :
  ∀ (i : Nat) (cs : List DVal) (us : List Value), es[i]? = some cs → rows[i]? = some us → cs.length = k ∧ rdV cur' M' H' cs us ∧ ∀ u ∈ us, u.oneCell' = true := by
 intro i cs us hc hu
 obtain ⟨g1, g2, g3⟩ := h i cs us hc hu
 refine ⟨g1, rdV_weak W cs us ?_ g2, g3⟩
 have : ∀ (l : List (List DVal)) (i : Nat), l[i]? = some cs → mxL cs ≤ mxR l := by
  intro l
  induction l with
  | nil => intro i h; simp at h
  | cons c l ih =>
   intro i h
   cases i with
   | zero => simp only [List.getElem?_cons_zero, Option.some.injEq] at h; subst h; simp only [mxR]; omega
   | succ i => have := ih i (by simpa using h); simp only [mxR]; omega
 have := this es i hc
 omega
def RowAt (s : DS) (loc : Nat → Loc) (w : World) (M0 : List Nat) (id : Nat) (et k bs : Nat) (es : List (List DVal)) (dv : Value) : Prop :=
 (es = [] ∧ dv = .slice none 0 0) ∨
 ∃ e0 ∈ s.own, e0.id = id ∧ ∃ b arr cap, (loc id).blks = [b] ∧ dv = .slice (some ⟨b, 0, none⟩) es.length cap ∧ w.heap[b]? = some (.cells arr et (0, 0)) ∧ es.length ≤ cap ∧ cap ≤ maxLen ∧ cap * k = arr.size ∧ rdR (cu s loc) (hm s loc M0) w.heap k es arr 0
theorem rowAt_osl (S : St s.own loc B.M0 w.heap) {id r et k bs : Nat} {es : List (List DVal)} {e0 : Ent} {dv : Value} (he : findE s.own id = some e0) (her : e0.r = r) (hob : e0.obj = .row et k bs es) (hd : Rds s loc B.M0 w (.osl id r) dv) : RowAt s loc w B.M0 id et k bs es dv := by
 obtain ⟨hmem, hid⟩ := findE_ent he
 have hk := S.ok e0 hmem
 rw [hob] at hk
 obtain ⟨_, hk⟩ := hk
 simp only [Rds, rd] at hd
 have hv := hd (loc id) (by show curOf _ _ _ _ = _; unfold curOf; rw [he]; simp [her])
 rw [hid] at hk
 rcases hk with ⟨h1, h2, h3⟩ | ⟨b, arr, cap, h1, h2, h3, h4, h5, h6, h7⟩
 ·exact .inl ⟨h1, by rw [hv, h3]⟩
 ·exact .inr ⟨e0, hmem, hid, b, arr, cap, h1, by rw [hv, h2], h3, h4, h5, h6, h7⟩
theorem fitsL {need old bs : Nat} (h : old < need) (hb : need * bs ≤ 150000000000000) (h2 : bs ≤ 65536) : Builtin.nextslicecap need old * bs ≤ 281474976710656 := by
 refine growslice_fits_wide h ?_
 have h3 : need / 4 * bs * 4 ≤ need * bs := by
  rw [Nat.mul_right_comm]
  exact Nat.mul_le_mul_right _ (Nat.div_mul_le_self need 4)
 have h4 : 192 * bs ≤ 192 * 65536 := Nat.mul_le_mul_left _ h2
 rw [Nat.add_mul, Nat.add_mul]
 omega
theorem Rel.append {id n : Nat} {t ty e : TypeId} {k bs k2 : Nat} {es es2 : List (List DVal)} {sd : DVal} {dv sv : Value} {dst : Option Nat} (R : Rel B s a w loc) (hlim : lim B s ≤ n) (hdst : ∀ i, dst = some i → i < B.nt)
  (ht : tElem P t = some (k, bs)) (hte : tElemId P t = some e) (hz : zeroOK P t = true) (hk : 0 < k) (hrow : RowAt s loc w B.M0 id e k bs es dv) (hmx1 : mxR es ≤ n)
  (hsv : Rds s loc B.M0 w sd sv) (hsrc : rowsN s.own sd = some (k2, es2)) (hk2 : k2 = k ∨ es2 = []) (hmx2 : mxR es2 ≤ n) (hb : (es.length + es2.length) * bs ≤ 150000000000000) (hbs : bs ≤ 65536) (hl : es.length + es2.length ≤ maxLen) :
  ∃ v' w' L, (Builtin.append_ #[t, t] ty #[dv, sv]).run P w = .ok v' w' ∧ Rel B ⟨putS s.slots dst (.osl id n), upE s.own id n (.row e k bs (es ++ es2))⟩ (a.put dst v') w' (upL loc id L) := by
 obtain ⟨e', i, hu, hi, hsz, hby, _⟩ := tElem_some ht
 have hee : e' = e := by unfold tElemId at hte; rw [hu] at hte; simpa using hte
 subst hee
 obtain ⟨z, hzr, hzs⟩ : ∃ z, i.zero = some z ∧ z.cells.size = k := by
  unfold zeroOK at hz
  rw [hu] at hz
  simp only [hi] at hz
  cases hq : i.zero with
  | none => simp [hq] at hz
  | some z => simp only [hq, beq_iff_eq] at hz; exact ⟨z, rfl, by rw [hz, hsz]⟩
 obtain ⟨rows2, q1, q2, q3, q4, q5, q6⟩ := src_ok (B := B) R.st hsv hsrc
 have hlenb : (es ++ es2).length * bs ≤ 150000000000000 := by simpa using hb
 have mx12 : mxR (es ++ es2) ≤ n := by rw [mxR_append]; omega
 -- what the slot reads at the end
 have rdEnd : ∀ (L : Loc) (h : Array Obj) (obj : DObj), rd (curOf (upE s.own id n obj) (upL loc id L)) (hotOf (upE s.own id n obj) (upL loc id L) ++ B.M0) h (.osl id n) L.hdr := by
  intro L h obj
  simp only [rd]
  intro l hl'
  rw [curOf_up] at hl'
  simp only [Option.some.injEq] at hl'
  rw [hl']
 rcases q6 with ⟨rfl, x, cap2, rfl⟩ | ⟨ad, cap2, rfl, q6⟩
 ·-- nothing is appended
  rw [List.append_nil] at *
  rcases hrow with ⟨rfl, rfl⟩ | ⟨e0, hmem, hid, b, arr, cap, h1', rfl, h3, h4, h5, h6, h7⟩
  ·refine ⟨_, w, ⟨[], .slice none 0 0⟩, run_append_zero hu hi (Nat.le_refl _), ?_⟩
   refine R.up (L := ⟨[], .slice none 0 0⟩) hlim hdst (Upd.refl _ _) (fun b hb _ => rfl) (fun b hb => by simp at hb) (.inl (Nat.le_refl _)) ⟨by simp, .inl ⟨rfl, rfl, rfl⟩⟩ (rdEnd ⟨[], .slice none 0 0⟩ _ _)
  ·have h1 : b ∈ (loc id).blks := by rw [h1']; simp
   refine ⟨_, w, ⟨[b], .slice (some ⟨b, 0, none⟩) es.length cap⟩, run_append_zero hu hi h4, ?_⟩
   have hL : ∀ b0, b0 ∈ (⟨[b], .slice (some ⟨b, 0, none⟩) es.length cap⟩ : Loc).blks → b0 < w.heap.size ∧ ((∃ e ∈ s.own, e.id = id ∧ b0 ∈ (loc id).blks) ∨ w.heap.size ≤ b0) := by
    intro b0 hb0
    simp only [List.mem_singleton] at hb0
    subst hb0
    exact ⟨(Array.getElem?_eq_some_iff.1 h3).1, .inl ⟨e0, hmem, hid, h1⟩⟩
   have W := R.weakUp (obj := .row e' k bs es) (r := n) hlim (Upd.refl _ _) hL (.inl (Nat.le_refl _))
   exact R.up (L := ⟨[b], .slice (some ⟨b, 0, none⟩) es.length cap⟩) hlim hdst (Upd.refl _ _) (fun b hb _ => rfl) hL (.inl (Nat.le_refl _)) ⟨hlenb, .inr ⟨b, arr, cap, rfl, rfl, h3, h4, h5, h6, rdR_weak W k es arr 0 hmx1 h7⟩⟩ (rdEnd ⟨[b], .slice (some ⟨b, 0, none⟩) es.length cap⟩ _ _)
 ·by_cases hm0 : es2.length = 0
  ·have : es2 = [] := List.eq_nil_of_length_eq_zero hm0
   subst this
   rw [List.append_nil] at *
   simp only [List.length_nil] at *
   rcases hrow with ⟨rfl, rfl⟩ | ⟨e0, hmem, hid, b, arr, cap, h1', rfl, h3, h4, h5, h6, h7⟩
   ·refine ⟨_, w, ⟨[], .slice none 0 0⟩, run_append_zero hu hi (Nat.le_refl _), ?_⟩
    refine R.up (L := ⟨[], .slice none 0 0⟩) hlim hdst (Upd.refl _ _) (fun b hb _ => rfl) (fun b hb => by simp at hb) (.inl (Nat.le_refl _)) ⟨by simp, .inl ⟨rfl, rfl, rfl⟩⟩ (rdEnd ⟨[], .slice none 0 0⟩ _ _)
   ·have h1 : b ∈ (loc id).blks := by rw [h1']; simp
    refine ⟨_, w, ⟨[b], .slice (some ⟨b, 0, none⟩) es.length cap⟩, run_append_zero hu hi h4, ?_⟩
    have hL : ∀ b0, b0 ∈ (⟨[b], .slice (some ⟨b, 0, none⟩) es.length cap⟩ : Loc).blks → b0 < w.heap.size ∧ ((∃ e ∈ s.own, e.id = id ∧ b0 ∈ (loc id).blks) ∨ w.heap.size ≤ b0) := by
     intro b0 hb0
     simp only [List.mem_singleton] at hb0
     subst hb0
     exact ⟨(Array.getElem?_eq_some_iff.1 h3).1, .inl ⟨e0, hmem, hid, h1⟩⟩
    have W := R.weakUp (obj := .row e' k bs es) (r := n) hlim (Upd.refl _ _) hL (.inl (Nat.le_refl _))
    exact R.up (L := ⟨[b], .slice (some ⟨b, 0, none⟩) es.length cap⟩) hlim hdst (Upd.refl _ _) (fun b hb _ => rfl) hL (.inl (Nat.le_refl _)) ⟨hlenb, .inr ⟨b, arr, cap, rfl, rfl, h3, h4, h5, h6, rdR_weak W k es arr 0 hmx1 h7⟩⟩ (rdEnd ⟨[b], .slice (some ⟨b, 0, none⟩) es.length cap⟩ _ _)
  ·have hkk : k2 = k := by
    rcases hk2 with h | h
    ·exact h
    ·subst h; simp at hm0
   subst hkk
   subst hsz
   subst hby
   have hl' : es.length + es2.length ≤ 9223372036854775807 := by unfold maxLen at hl; omega
   -- a new row, whatever it held before
   have fresh : ∀ (rows : List (List Value)) (cap : Nat), es.length ≤ cap ∨ True → rows.length = es.length → rows.flatten.length = es.length * i.size →
     (∀ (j : Nat) (cs : List DVal) (us : List Value), es[j]? = some cs → rows[j]? = some us → cs.length = i.size ∧ rdV (cu s loc) (hm s loc B.M0) w.heap cs us ∧ ∀ u ∈ us, u.oneCell' = true) →
     Rel B ⟨putS s.slots dst (.osl id n), upE s.own id n (.row e' i.size i.bytes (es ++ es2))⟩ (a.put dst (.slice (some ⟨w.heap.size, 0, none⟩) (es.length + es2.length) (grownCap w (es.length + es2.length) cap e')))
      (w.drew.alloc (.cells (rows.flatten.toArray ++ rows2.flatten.toArray ++ Builtin.zeroCells z.cells (grownCap w (es.length + es2.length) cap e' - (es.length + es2.length))) e')) (upL loc id ⟨[w.heap.size], .slice (some ⟨w.heap.size, 0, none⟩) (es.length + es2.length) (grownCap w (es.length + es2.length) cap e')⟩) := by
    intro rows cap _ r1 r2 r3
    have hw : Upd (hotOf s.own loc) w (w.drew.alloc (.cells (rows.flatten.toArray ++ rows2.flatten.toArray ++ Builtin.zeroCells z.cells (grownCap w (es.length + es2.length) cap e' - (es.length + es2.length))) e')) :=
     (Upd.drew _ w).trans (Upd.alloc _ w.drew _) (fun x hx => .inl hx)
    have hL : ∀ b0, b0 ∈ (⟨[w.heap.size], .slice (some ⟨w.heap.size, 0, none⟩) (es.length + es2.length) (grownCap w (es.length + es2.length) cap e')⟩ : Loc).blks → b0 < (w.drew.alloc (.cells (rows.flatten.toArray ++ rows2.flatten.toArray ++ Builtin.zeroCells z.cells (grownCap w (es.length + es2.length) cap e' - (es.length + es2.length))) e')).heap.size ∧ ((∃ e ∈ s.own, e.id = id ∧ b0 ∈ (loc id).blks) ∨ w.heap.size ≤ b0) := by
     intro b0 hb0
     simp only [List.mem_singleton] at hb0
     subst hb0
     exact ⟨by simp, .inr (Nat.le_refl _)⟩
    have W := R.weakUp (obj := .row e' i.size i.bytes (es ++ es2)) (r := n) hlim hw hL (.inl (Nat.le_refl _))
    have hge := grownCap_ge w (es.length + es2.length) cap e'
    have hcm := grownCap_le_maxLen w (es.length + es2.length) cap e' hl
    refine R.up hlim hdst hw (fun b hb _ => by simp only [World.alloc, Array.getElem?_push, World.drew]; rw [if_neg (by omega)]) hL (.inl (Nat.le_refl _)) ⟨hlenb, .inr ⟨w.heap.size, _, _, rfl, by simp, heap_alloc_new w.drew _, by simpa using hge, hcm, ?_, ?_⟩⟩ (rdEnd ⟨[w.heap.size], .slice (some ⟨w.heap.size, 0, none⟩) (es.length + es2.length) (grownCap w (es.length + es2.length) cap e')⟩ _ _)
    ·simp only [Array.size_append, List.size_toArray, size_zeroCells, hzs, r2, q3, ← Nat.add_mul]
     congr 1
     omega
    ·have := joinRows (k := i.size) r1 q1 (weak_rows W hmx1 r3) (weak_rows W hmx2 q2) (Builtin.zeroCells z.cells (grownCap w (es.length + es2.length) cap e' - (es.length + es2.length))).toList
     have e1 : (rows.flatten ++ rows2.flatten ++ (Builtin.zeroCells z.cells (grownCap w (es.length + es2.length) cap e' - (es.length + es2.length))).toList).toArray = rows.flatten.toArray ++ rows2.flatten.toArray ++ Builtin.zeroCells z.cells (grownCap w (es.length + es2.length) cap e' - (es.length + es2.length)) := by
      apply Array.ext'; simp
     rw [e1] at this
     exact this
   rcases hrow with ⟨rfl, rfl⟩ | ⟨e0, hmem, hid, b, arr, cap, h1', rfl, h3, h4, h5, h6, h7⟩
   ·have hr := run_append_nil (P := P) w t ty e' i z hu hi hzr ad es2.length cap2 rows2.flatten q3 q6 (by omega) (by omega) (by simp only [List.length_nil, Nat.zero_add] at hb; omega)
    have hf := fresh [] 0 (.inr trivial) rfl (by simp) (by simp)
    simp only [List.length_nil, Nat.zero_add, List.nil_append, List.flatten_nil, Array.empty_append] at hf hr ⊢
    exact ⟨_, _, _, hr, hf⟩
   ·have h1 : b ∈ (loc id).blks := by rw [h1']; simp
    obtain ⟨rows, r1, r2, r3, r4⟩ := rdR_vals i.size es arr 0 h7
    have hfits : es.length * i.size ≤ arr.size := by rw [← h6]; exact Nat.mul_le_mul_right _ h4
    by_cases hroom : es.length + es2.length ≤ cap
    ·have hfit : es.length * i.size + rows2.flatten.length ≤ arr.size := by rw [q3, ← h6, ← Nat.add_mul]; exact Nat.mul_le_mul_right _ hroom
     have hr := run_append_room (P := P) w t ty e' i hu hi b es.length cap arr h3 ad es2.length cap2 rows2.flatten q3 q6 q4 hroom hfit
     refine ⟨_, _, ⟨[b], .slice (some ⟨b, 0, none⟩) (es.length + es2.length) cap⟩, hr, ?_⟩
     have hw : Upd (hotOf s.own loc) w (w.setRow b (arr.toList.take (es.length * i.size) ++ rows2.flatten ++ arr.toList.drop (es.length * i.size + rows2.flatten.length)).toArray) := Upd.setRow hmem (by rw [hid]; exact h1) w _
     have hL : ∀ b0, b0 ∈ (⟨[b], .slice (some ⟨b, 0, none⟩) (es.length + es2.length) cap⟩ : Loc).blks → b0 < (w.setRow b (arr.toList.take (es.length * i.size) ++ rows2.flatten ++ arr.toList.drop (es.length * i.size + rows2.flatten.length)).toArray).heap.size ∧ ((∃ e ∈ s.own, e.id = id ∧ b0 ∈ (loc id).blks) ∨ w.heap.size ≤ b0) := by
      intro b0 hb0
      simp only [List.mem_singleton] at hb0
      subst hb0
      refine ⟨?_, .inl ⟨e0, hmem, hid, h1⟩⟩
      have := (Array.getElem?_eq_some_iff.1 h3).1
      simpa using this
     have W := R.weakUp (obj := .row e' i.size i.bytes (es ++ es2)) (r := n) hlim hw hL (.inl (Nat.le_refl _))
     refine R.up hlim hdst hw ?_ hL (.inl (Nat.le_refl _)) ⟨hlenb, .inr ⟨b, _, cap, rfl, by simp, setRow_heap w b arr _ e' (0, 0) h3, by simpa using hroom, h5, ?_, ?_⟩⟩ (rdEnd ⟨[b], .slice (some ⟨b, 0, none⟩) (es.length + es2.length) cap⟩ _ _)
     ·intro b0 hb0 hne
      refine setRow_other w b b0 _ (fun h => hne e0 hmem hid ?_)
      rw [h]; exact h1
     ·simp only [List.size_toArray, List.length_append, List.length_take, List.length_drop, Array.length_toList]; omega
     ·have ht' := take_flat r2 r4 hfits
      have hj := joinRows r1 q1 (weak_rows W hmx1 r3) (weak_rows W hmx2 q2) (arr.toList.drop (es.length * i.size + rows2.flatten.length))
      rw [← ht'] at hj
      exact hj
    ·have hr := run_append_grow (P := P) w t ty e' i z hu hi hzr ⟨b, 0, none⟩ es.length cap rows.flatten r2 (fun j v hj => by rw [add_lit]; simp only [World.cell?, h3]; exact (r4 j v hj).1) ad es2.length cap2 rows2.flatten q3 q6 (by omega) (by omega) (fitsL (by omega) hb hbs)
     exact ⟨_, _, _, hr, fresh rows cap (.inl h4) r1 r2 r3⟩
end
end Go.Dm
end
