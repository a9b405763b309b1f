/- The data machine, second make, part B: own objects, states, and what they say of a frame and a world. -/
import Derived.Test.YtihkcegelghcpaaEnA
set_option linter.unusedSimpArgs false
set_option linter.unusedVariables false
namespace Go.Dm

/-- A thing of which no more is known than a word on its blocks; it holds on while these stay and what is not own does. -/
structure Abs where
  J : List Nat → List Nat → Value → Array Obj → Prop
  weak : ∀ M M' bl hd h h', (∀ b o, b ∉ M → isD o = true → h[b]? = some o → h'[b]? = some o) → (∀ b o, b ∉ M → isD o = true → h[b]? = some o → b ∉ M') → (∀ b o, b ∈ bl → h[b]? = some o → h'[b]? = some o) → J M bl hd h → J M' bl hd h'
  one : ∀ M bl hd h, J M bl hd h → hd.oneCell' = true ∧ hd.cells = #[hd]
  nd : ∀ M bl hd h, J M bl hd h → ∀ b ∈ bl, ∀ c, h[b]? ≠ some (.deferred c)

inductive DObj where
  | box (cs : List DVal)
  | row (et : TypeId) (k bs : Nat) (es : List (List DVal))
  | map (ks vs : List DVal)
  | abs (A : Abs)

structure Ent where
  id : Nat
  r : Nat
  obj : DObj

structure DS where
  slots : List (Nat × DVal)
  own : List Ent

def getS : List (Nat × DVal) → Nat → DVal
  | [], _ => .any
  | (j, d) :: t, i => if i = j then d else getS t i

def findE : List Ent → Nat → Option Ent
  | [], _ => none
  | e :: t, id => if e.id = id then some e else findE t id

def setE : List Ent → Nat → DObj → List Ent
  | [], _, _ => []
  | e :: t, id, o => if e.id = id then ⟨e.id, e.r, o⟩ :: t else e :: setE t id o

def delE : List Ent → Nat → List Ent
  | [], _ => []
  | e :: t, id => if e.id = id then delE t id else e :: delE t id

def mxS : List (Nat × DVal) → Nat
  | [] => 0
  | p :: t => max (mx p.2) (mxS t)

def mxO : DObj → Nat
  | .box cs => mxL cs
  | .row _ _ _ es => mxR es
  | .map ks vs => max (mxL ks) (mxL vs)
  | .abs _ => 0

def mxE : List Ent → Nat
  | [] => 0
  | e :: t => max (max (e.r + 1) (mxO e.obj)) (mxE t)

theorem mx_getS (l : List (Nat × DVal)) (i : Nat) : mx (getS l i) ≤ mxS l := by
  induction l with
  | nil => simp [getS, mx, mxS]
  | cons p t ih =>
    obtain ⟨j, d⟩ := p
    simp only [getS, mxS]
    split <;> omega

theorem mem_mxE {own : List Ent} {e : Ent} (h : e ∈ own) : e.r < mxE own ∧ mxO e.obj ≤ mxE own := by
  induction own with
  | nil => cases h
  | cons a t ih =>
    simp only [mxE]
    rcases List.mem_cons.1 h with rfl | h
    · omega
    · have := ih h; omega

def curOf (own : List Ent) (loc : Nat → Loc) : Cur := fun id r =>
  match findE own id with
  | some e => if e.r = r then some (loc id) else none
  | none => none

def hotOf (own : List Ent) (loc : Nat → Loc) : List Nat := own.flatMap fun e => (loc e.id).blks

section
variable (cur : Cur) (M : List Nat) (h : Array Obj)
def ObjOK (l : Loc) : DObj → Prop
  | .box cs => ∃ b arr ty, l.blks = [b] ∧ h[b]? = some (.cells arr ty (0, 0)) ∧ arr.size = cs.length ∧ rdC cur M h cs arr 0
  | .row et k bs es => es.length * bs ≤ 140737488355328 ∧ ((es = [] ∧ l.blks = [] ∧ l.hdr = .slice none 0 0) ∨
      ∃ b arr cap, l.blks = [b] ∧ l.hdr = .slice (some ⟨b, 0, none⟩) es.length cap ∧ h[b]? = some (.cells arr et (0, 0)) ∧ es.length ≤ cap ∧ cap ≤ maxLen ∧ cap * k = arr.size ∧ rdR cur M h k es arr 0)
  | .map ks vs => ∃ b es clk, l.blks = [b] ∧ h[b]? = some (.map es clk) ∧ bornOK es clk ∧ rdV cur M h ks (es.toList.map (·.key)) ∧ rdV cur M h vs (es.toList.map (·.val))
  | .abs A => A.J M l.blks l.hdr h
end

/-- An own object is what it is, while its blocks stay. -/
theorem ObjOK_weak {cur cur' : Cur} {M M' : List Nat} {h h' : Array Obj} {n : Nat} {l : Loc} {obj : DObj} (W : Weak cur cur' M M' h h' n) (hn : mxO obj ≤ n)
    (keep : ∀ b o, b ∈ l.blks → h[b]? = some o → h'[b]? = some o) (hk : ObjOK cur M h l obj) : ObjOK cur' M' h' l obj := by
  cases obj with
  | box cs =>
    simp only [mxO] at hn
    obtain ⟨b, arr, ty, h1, h2, h3, h4⟩ := hk
    exact ⟨b, arr, ty, h1, keep b _ (by simp [h1]) h2, h3, rdC_weak W cs arr 0 hn h4⟩
  | row et k bs es =>
    simp only [mxO] at hn
    obtain ⟨h0, hk⟩ := hk
    refine ⟨h0, hk.imp id ?_⟩
    rintro ⟨b, arr, cap, h1, h2, h3, h4, h5, h6, h7⟩
    exact ⟨b, arr, cap, h1, h2, keep b _ (by simp [h1]) h3, h4, h5, h6, rdR_weak W k es arr 0 hn h7⟩
  | map ks vs =>
    simp only [mxO] at hn
    obtain ⟨b, es, clk, h1, h2, h3, h4, h5⟩ := hk
    exact ⟨b, es, clk, h1, keep b _ (by simp [h1]) h2, h3, rdV_weak W ks _ (by omega) h4, rdV_weak W vs _ (by omega) h5⟩
  | abs A => exact A.weak M M' l.blks l.hdr h h' W.b W.m keep hk

structure St (own : List Ent) (loc : Nat → Loc) (M0 : List Nat) (h : Array Obj) : Prop where
  nd : (own.map (·.id)).Nodup
  bl : (hotOf own loc).Nodup
  ap : ∀ b ∈ hotOf own loc, b ∉ M0
  lt : ∀ b ∈ hotOf own loc ++ M0, b < h.size
  ok : ∀ e ∈ own, ObjOK (curOf own loc) (hotOf own loc ++ M0) h (loc e.id) e.obj

/-- From w to w' no block has turned but those of H; new ones may have come. -/
structure Upd (H : List Nat) (w w' : World) : Prop where
  os : w'.os = w.os
  tape : w'.tape = w.tape
  output : w'.output = w.output
  drawn : w.drawn ≤ w'.drawn
  size : w.heap.size ≤ w'.heap.size
  blk : ∀ b, b < w.heap.size → b ∉ H → w'.heap[b]? = w.heap[b]?

theorem Upd.refl (H : List Nat) (w : World) : Upd H w w := ⟨rfl, rfl, rfl, Nat.le_refl _, Nat.le_refl _, fun _ _ _ => rfl⟩

theorem Upd.trans {H H' : List Nat} {a b c : World} (h : Upd H a b) (k : Upd H' b c) (hh : ∀ x ∈ H', x ∈ H ∨ a.heap.size ≤ x) : Upd H a c :=
  ⟨k.os.trans h.os, k.tape.trans h.tape, k.output.trans h.output, Nat.le_trans h.drawn k.drawn, Nat.le_trans h.size k.size, fun x hx hn =>
    (k.blk x (Nat.lt_of_lt_of_le hx h.size) (fun hm => by rcases hh x hm with h1 | h1; exact hn h1; omega)).trans (h.blk x hx hn)⟩

theorem Upd.alloc (H : List Nat) (w : World) (o : Obj) : Upd H w (w.alloc o) :=
  ⟨rfl, rfl, rfl, Nat.le_refl _, by simp, fun b hb _ => by simp only [World.alloc, Array.getElem?_push]; rw [if_neg (by omega)]⟩

theorem Upd.drew (H : List Nat) (w : World) : Upd H w w.drew := ⟨rfl, rfl, rfl, by simp, Nat.le_refl _, fun _ _ _ => rfl⟩

theorem Upd.nil {H : List Nat} {w w' : World} (h : Upd [] w w') : Upd H w w' := ⟨h.os, h.tape, h.output, h.drawn, h.size, fun b hb _ => h.blk b hb (by simp)⟩

structure Base where
  own0 : List Ent
  loc0 : Nat → Loc
  M0 : List Nat
  N : Nat
  w0 : World
  nt : Nat
  ro : Option Nat := none
  hN : N ≤ 1 := by decide

/-- The activation's deferred calls: those of ranges over functions alone; none was laid. -/
def DfOK (B : Base) (M : List Nat) (a : Act) (h : Array Obj) : Prop :=
  ∃ rs : List Nat, a.defers = rs.map (fun r => { target := .collected r, args := #[] }) ∧ rs.Nodup ∧ (∀ r ∈ rs, h[r]? = some (.deferred (some [])) ∧ B.w0.heap.size ≤ r ∧ r ∉ M) ∧ (B.ro ≠ none → rs = [])

theorem DfOK.keep {B : Base} {M M' H : List Nat} {a a' : Act} {w w' : World} (hd : DfOK B M a w.heap) (ha : a'.defers = a.defers)
    (hu : Upd H w w') (hH : ∀ x ∈ H, x ∈ M) (hm : ∀ b ∈ M', b ∈ M ∨ w.heap.size ≤ b) : DfOK B M' a' w'.heap := by
  obtain ⟨rs, h1, h0, h2, h3⟩ := hd
  refine ⟨rs, ha.trans h1, h0, fun r hr => ?_, h3⟩
  obtain ⟨g1, g2, g3⟩ := h2 r hr
  have hlt := (Array.getElem?_eq_some_iff.1 g1).1
  refine ⟨by rw [hu.blk r hlt (fun h => g3 (hH r h))]; exact g1, g2, fun h => ?_⟩
  rcases hm r h with h | h
  · exact g3 h
  · omega

structure Rel (B : Base) (s : DS) (a : Act) (w : World) (loc : Nat → Loc) : Prop where
  st : St s.own loc B.M0 w.heap
  upd : Upd (hotOf B.own0 B.loc0) B.w0 w
  new : ∀ b ∈ hotOf s.own loc, b ∈ hotOf B.own0 B.loc0 ∨ B.w0.heap.size ≤ b
  ver : ∀ e ∈ s.own, e.r < B.N → curOf B.own0 B.loc0 e.id e.r = some (loc e.id)
  sl : ∀ i, rd (curOf s.own loc) (hotOf s.own loc ++ B.M0) w.heap (getS s.slots i) (a.tmps.getD i Go.undef)
  nt : a.tmps.size = B.nt
  df : DfOK B (hotOf s.own loc ++ B.M0) a w.heap

theorem findE_mem {own : List Ent} {id : Nat} {e : Ent} (h : findE own id = some e) : e ∈ own ∧ e.id = id := by
  induction own with
  | nil => simp [findE] at h
  | cons a t ih =>
    simp only [findE] at h
    split at h
    · simp only [Option.some.injEq] at h; subst h; exact ⟨List.mem_cons_self, by assumption⟩
    · have := ih h; exact ⟨List.mem_cons_of_mem _ this.1, this.2⟩

theorem findE_of_mem {own : List Ent} (nd : (own.map (·.id)).Nodup) {e : Ent} (h : e ∈ own) : findE own e.id = some e := by
  induction own with
  | nil => cases h
  | cons a t ih =>
    simp only [List.map_cons, List.nodup_cons] at nd
    simp only [findE]
    rcases List.mem_cons.1 h with rfl | h
    · simp
    · rw [if_neg, ih nd.2 h]
      intro he
      exact nd.1 (he ▸ List.mem_map_of_mem (f := (·.id)) h)

theorem curOf_some {own : List Ent} {loc : Nat → Loc} {id r : Nat} {l : Loc} (h : curOf own loc id r = some l) : ∃ e ∈ own, e.id = id ∧ e.r = r ∧ l = loc id := by
  unfold curOf at h
  split at h
  · rename_i e he
    split at h
    · simp only [Option.some.injEq] at h
      obtain ⟨h1, h2⟩ := findE_mem he
      exact ⟨e, h1, h2, by assumption, h.symm⟩
    · simp at h
  · simp at h

theorem mem_hot {own : List Ent} {loc : Nat → Loc} {e : Ent} {b : Nat} (h : e ∈ own) (hb : b ∈ (loc e.id).blks) : b ∈ hotOf own loc :=
  List.mem_flatMap.2 ⟨e, h, hb⟩

/-- A datum is kept from one state of memory to the next one. -/
theorem weak_step {own own' : List Ent} {loc loc' : Nat → Loc} {M0 : List Nat} {w w' : World} {n : Nat}
    (hupd : Upd (hotOf own loc) w w') (hnew : ∀ b ∈ hotOf own' loc', b ∈ hotOf own loc ∨ w.heap.size ≤ b)
    (hver : ∀ e ∈ own', e.r < n → curOf own loc e.id e.r = some (loc' e.id)) :
    Weak (curOf own loc) (curOf own' loc') (hotOf own loc ++ M0) (hotOf own' loc' ++ M0) w.heap w'.heap n where
  c := by
    intro id r l hr hl
    obtain ⟨e, he, rfl, rfl, rfl⟩ := curOf_some hl
    exact hver e he hr
  b := by
    intro b o hb _ ho
    have hlt : b < w.heap.size := (Array.getElem?_eq_some_iff.1 ho).1
    rw [hupd.blk b hlt (fun h => hb (List.mem_append_left _ h))]
    exact ho
  m := by
    intro b o hb _ ho hm
    have hlt : b < w.heap.size := (Array.getElem?_eq_some_iff.1 ho).1
    rcases List.mem_append.1 hm with h | h
    · rcases hnew b h with h1 | h1
      · exact hb (List.mem_append_left _ h1)
      · omega
    · exact hb (List.mem_append_right _ h)

theorem getD_put (a : Act) (dst : Option Nat) (v : Value) (i : Nat) (hd : ∀ d, dst = some d → d < a.tmps.size) :
    (a.put dst v).tmps.getD i Go.undef = if dst = some i then v else a.tmps.getD i Go.undef := by
  cases dst with
  | none => simp [Act.put]
  | some d =>
    have := hd d rfl
    simp only [Act.put, Array.getD_eq_getD_getElem?, Array.getElem?_setIfInBounds, Option.some.injEq]
    by_cases h : d = i
    · subst h; simp [this]
    · simp [h]

theorem size_put (a : Act) (dst : Option Nat) (v : Value) : (a.put dst v).tmps.size = a.tmps.size := by
  cases dst <;> simp [Act.put]

theorem defers_put (a : Act) (dst : Option Nat) (v : Value) : (a.put dst v).defers = a.defers := by
  cases dst <;> rfl

def putS (l : List (Nat × DVal)) : Option Nat → DVal → List (Nat × DVal)
  | some i, d => (i, d) :: l
  | none, _ => l

/-- THE STEP: an operation has yielded v, which reads as d; memory has turned as said. -/
theorem Rel.step {B : Base} {s : DS} {a : Act} {w w' : World} {loc loc' : Nat → Loc} {own' : List Ent} {n : Nat} {v : Value} {d : DVal} {dst : Option Nat}
    (R : Rel B s a w loc) (hn : B.N ≤ n) (hs : mxS s.slots ≤ n) (hdst : ∀ i, dst = some i → i < B.nt)
    (hst : St own' loc' B.M0 w'.heap) (hupd : Upd (hotOf s.own loc) w w')
    (hnew : ∀ b ∈ hotOf own' loc', b ∈ hotOf s.own loc ∨ w.heap.size ≤ b)
    (hver : ∀ e ∈ own', e.r < n → curOf s.own loc e.id e.r = some (loc' e.id))
    (hd : rd (curOf own' loc') (hotOf own' loc' ++ B.M0) w'.heap d v) :
    Rel B ⟨putS s.slots dst d, own'⟩ (a.put dst v) w' loc' where
  st := hst
  upd := R.upd.trans hupd R.new
  new := by
    intro b hb
    rcases hnew b hb with h | h
    · exact R.new b h
    · exact .inr (Nat.le_trans R.upd.size h)
  ver := by
    intro e he hr
    obtain ⟨e', he', h1, h2, h3⟩ := curOf_some (hver e he (Nat.lt_of_lt_of_le hr hn))
    have := R.ver e' he' (by omega)
    rw [h1, h2] at this
    rw [this, h3]
  sl := by
    intro i
    have hget := getD_put a dst v i (fun d hd => by rw [R.nt]; exact hdst d hd)
    rw [hget]
    have W := weak_step (M0 := B.M0) hupd hnew hver
    have hold : rd (curOf own' loc') (hotOf own' loc' ++ B.M0) w'.heap (getS s.slots i) (a.tmps.getD i Go.undef) :=
      rd_weak W _ _ (Nat.le_trans (mx_getS _ _) hs) (R.sl i)
    cases dst with
    | none => simpa [putS] using hold
    | some j =>
      simp only [putS, getS]
      by_cases hij : i = j
      · subst hij; simpa using hd
      · rw [if_neg hij, if_neg (fun h => hij (Option.some.inj h).symm)]; exact hold
  nt := by rw [size_put]; exact R.nt
  df := by
    refine R.df.keep (defers_put a dst v) hupd (fun x hx => List.mem_append_left _ hx) ?_
    intro b hb
    rcases List.mem_append.1 hb with h | h
    · rcases hnew b h with h | h
      · exact .inl (List.mem_append_left _ h)
      · exact .inr h
    · exact .inl (List.mem_append_right _ h)

theorem St.keep {own : List Ent} {loc : Nat → Loc} {M0 : List Nat} {w w' : World} (h : St own loc M0 w.heap) (u : Upd [] w w') : St own loc M0 w'.heap where
  nd := h.nd
  bl := h.bl
  ap := h.ap
  lt := fun b hb => Nat.lt_of_lt_of_le (h.lt b hb) u.size
  ok := by
    intro e he
    have W : Weak (curOf own loc) (curOf own loc) (hotOf own loc ++ M0) (hotOf own loc ++ M0) w.heap w'.heap (mxO e.obj) := by
      refine weak_step u.nil (fun b hb => .inl hb) ?_
      intro e' he' _
      unfold curOf
      rw [findE_of_mem h.nd he']
      simp
    have hb : ∀ b o, w.heap[b]? = some o → w'.heap[b]? = some o := fun b o ho => by
      rw [u.blk b (Array.getElem?_eq_some_iff.1 ho).1 (by simp)]; exact ho
    exact ObjOK_weak W (Nat.le_refl _) (fun b o _ ho => hb b o ho) (h.ok e he)

theorem curOf_self {own : List Ent} {loc : Nat → Loc} (nd : (own.map (·.id)).Nodup) {e : Ent} (he : e ∈ own) : curOf own loc e.id e.r = some (loc e.id) := by
  unfold curOf
  rw [findE_of_mem nd he]
  simp

/-- A step in which own objects stay as they are. -/
theorem Rel.put {B : Base} {s : DS} {a : Act} {w w' : World} {loc : Nat → Loc} {v : Value} {d : DVal} {dst : Option Nat}
    (R : Rel B s a w loc) (hdst : ∀ i, dst = some i → i < B.nt) (hupd : Upd [] w w')
    (hd : rd (curOf s.own loc) (hotOf s.own loc ++ B.M0) w'.heap d v) : Rel B ⟨putS s.slots dst d, s.own⟩ (a.put dst v) w' loc :=
  R.step (n := max B.N (mxS s.slots)) (by omega) (by omega) hdst (R.st.keep hupd) hupd.nil (fun b hb => .inl hb) (fun e he _ => curOf_self R.st.nd he) hd

end Go.Dm
