/- Parts of a proof, laid together: EnI2, EnI3. -/
import Derived.Laws.MakeOwn
import Derived.Laws.CopyRow
import Derived.Test.YtedjakmhhlilaaaGreatqGx9
set_option linter.unusedSimpArgs false
set_option linter.unusedVariables false
set_option linter.unusedSectionVars false
section
namespace Go.Dm
variable [DMode]
theorem rdC_splice {cur : Cur} {M : List Nat} {H : Array Obj} {cs ds : List DVal} {arr : Array Value} {vs : List Value} {o j : Nat} (hr : rdC cur M H cs arr o) (hv : rdV cur M H ds vs) (hone : ∀ u ∈ vs, u.oneCell' = true)
  (hfit : j + ds.length ≤ cs.length) (hsz : o + cs.length ≤ arr.size) : rdC cur M H (splice cs j ds) (arr.toList.take (o + j) ++ vs ++ arr.toList.drop (o + j + vs.length)).toArray o := by
 have hlv := rdV_length _ _ hv
 unfold splice
 refine rdC_app _ _ _ _ (rdC_app _ _ _ _ ?_ ?_) ?_
 ·refine rdC_same _ arr _ o o (fun q hq => ?_) (rdC_take j _ _ _ hr)
  have hq' : q < j := by simp at hq; omega
  simp only [List.getElem?_toArray, List.append_assoc]
  rw [List.getElem?_append_left (by simp; omega), List.getElem?_take_of_lt (by omega)]
  simp
 ·have h := rdC_of ds vs (arr.toList.take (o + j)) (arr.toList.drop (o + j + vs.length)) hv hone
  have e1 : o + (cs.take j).length = (arr.toList.take (o + j)).length := by simp; omega
  rw [e1]; exact h
 ·have hdr := rdC_drop (j + ds.length) cs arr o hr
  have e1 : o + (cs.take j ++ ds).length = o + (j + ds.length) := by simp; omega
  rw [e1]
  refine rdC_same _ arr _ _ _ (fun q hq => ?_) hdr
  simp only [List.getElem?_toArray]
  rw [List.getElem?_append_right (by simp; omega), List.getElem?_drop]
  have e2 : o + j + vs.length + (o + (j + ds.length) + q - (arr.toList.take (o + j) ++ vs).length) = o + (j + ds.length) + q := by simp; omega
  rw [e2]
  simp
theorem seg_out {arr : Array Value} {vs : List Value} {off q : Nat} (hsz : off + vs.length ≤ arr.size) (hq : q < off ∨ off + vs.length ≤ q) : (arr.toList.take off ++ vs ++ arr.toList.drop (off + vs.length)).toArray[q]? = arr[q]? := by
 simp only [List.getElem?_toArray]
 rcases hq with hq | hq
 ·rw [List.append_assoc, List.getElem?_append_left (by simp; omega), List.getElem?_take_of_lt hq]
  simp
 ·rw [List.getElem?_append_right (by simp; omega), List.getElem?_drop]
  have e2 : off + vs.length + (q - (arr.toList.take off ++ vs).length) = q := by simp; omega
  rw [e2]
  simp
theorem mul_lt_row {i k n : Nat} (h : i < n) : i * k + k ≤ n * k := by
 have := Nat.mul_le_mul_right k (show i + 1 ≤ n from h)
 rwa [Nat.add_mul, Nat.one_mul] at this
theorem rdR_set {cur : Cur} {M : List Nat} {H : Array Obj} {k i j : Nat} {es : List (List DVal)} {c0 ds : List DVal} {arr : Array Value} {vs : List Value} (hr : rdR cur M H k es arr 0) (hi : es[i]? = some c0) (hv : rdV cur M H ds vs) (hone : ∀ u ∈ vs, u.oneCell' = true)
  (hfit : j + ds.length ≤ k) (hsz : es.length * k ≤ arr.size) : rdR cur M H k (es.set i (splice c0 j ds)) (arr.toList.take (i * k + j) ++ vs ++ arr.toList.drop (i * k + j + vs.length)).toArray 0 := by
 have hlv := rdV_length _ _ hv
 have hil : i < es.length := (List.getElem?_eq_some_iff.1 hi).1
 have hrow := mul_lt_row (k := k) hil
 obtain ⟨hc0, hr0⟩ := rdR_at k es arr 0 i c0 hr hi
 refine rdR_mk _ _ _ _ fun q cs hq => ?_
 rw [List.getElem?_set] at hq
 split at hq
 ·rename_i hiq
  subst hiq
  (try simp only [hil, if_true] at hq); simp only [Option.some.injEq] at hq
  subst hq
  refine ⟨by simp [splice]; omega, ?_⟩
  simp only [Nat.zero_add] at hr0 ⊢
  exact rdC_splice hr0 hv hone (by omega) (by omega)
 ·rename_i hiq
  obtain ⟨g1, g2⟩ := rdR_at k es arr 0 q cs hr hq
  have hql : q < es.length := (List.getElem?_eq_some_iff.1 hq).1
  refine ⟨g1, rdC_same cs arr _ _ _ (fun p hp => seg_out (by omega) ?_) g2⟩
  rcases Nat.lt_or_gt_of_ne hiq with h | h
  ·have := mul_lt_row (k := k) h; omega
  ·have := mul_lt_row (k := k) h; omega
theorem mxR_set {n : Nat} {cs : List DVal} : ∀ (es : List (List DVal)) (i : Nat), mxR es ≤ n → mxL cs ≤ n → mxR (es.set i cs) ≤ n
 | [], _, _, _ => by simp [mxR]
 | e :: es, 0, h, hc => by simp only [List.set_cons_zero, mxR] at h ⊢; omega
 | e :: es, i + 1, h, hc => by
  simp only [List.set_cons_succ, mxR] at h ⊢
  have := mxR_set es i (by omega) hc
  omega
theorem mxR_at {es : List (List DVal)} {i : Nat} {c : List DVal} (h : es[i]? = some c) : mxL c ≤ mxR es := by
 induction es generalizing i with
 | nil => simp at h
 | cons e es ih =>
  cases i with
  | zero => simp only [List.getElem?_cons_zero, Option.some.injEq] at h; subst h; simp only [mxR]; omega
  | succ i => have := ih (i := i) (by simpa using h); simp only [mxR]; omega
section
variable {P : Program} {B : Base} {s : DS} {a : Act} {w : World} {loc : Nat → Loc}
theorem Rel.writeRow {id r n et k bs cap b : Nat} {e : Ent} {es es' : List (List DVal)} {arr arr' : Array Value} (R : Rel B s a w loc) (he : findE s.own id = some e) (her : e.r = r) (hob : e.obj = .row et k bs es)
  (h1 : (loc id).blks = [b]) (h2 : (loc id).hdr = .slice (some ⟨b, 0, none⟩) es.length cap) (h3 : w.heap[b]? = some (.cells arr et (0, 0))) (h4 : es.length ≤ cap) (h5 : cap ≤ maxLen) (h6 : cap * k = arr.size) (h7 : es.length * bs ≤ 150000000000000)
  (hlen : es'.length = es.length) (hsz : arr'.size = arr.size) (hrd : rdR (cu s loc) (hm s loc B.M0) w.heap k es' arr' 0) (hmx : mxR es' ≤ n) (hn : lim B s ≤ n)
  {dst : Option Nat} {d : DVal} {v : Value} (hdst : ∀ i, dst = some i → i < B.nt) (hdv : ∀ cur M h, rd cur M h d v) :
  Rel B ⟨putS s.slots dst d, upE s.own id r (.row et k bs es')⟩ (a.put dst v) (w.setRow b arr') (upL loc id (loc id)) := by
 obtain ⟨hmem, hid⟩ := findE_ent he
 have hcur : curOf s.own loc id r = some (loc id) := by unfold curOf; rw [he]; simp [her]
 have hb1 : b ∈ (loc id).blks := by rw [h1]; simp
 have hw : Upd (hotOf s.own loc) w (w.setRow b arr') := Upd.setRow hmem (by rw [hid]; exact hb1) w _
 have hL : ∀ b0, b0 ∈ (loc id).blks → b0 < (w.setRow b arr').heap.size ∧ ((∃ e ∈ s.own, e.id = id ∧ b0 ∈ (loc id).blks) ∨ w.heap.size ≤ b0) := by
  intro b0 hb0
  refine ⟨?_, .inl ⟨e, hmem, hid, hb0⟩⟩
  rw [h1] at hb0
  simp only [List.mem_singleton] at hb0
  subst hb0
  have := (Array.getElem?_eq_some_iff.1 h3).1
  simpa using this
 have W := R.weakUp (obj := .row et k bs es') hn hw hL (.inr hcur)
 refine R.up (hLn := by rw [h1]; simp) (n := n) hn hdst hw ?_ hL (.inr hcur) ?_ (hdv _ _ _)
 ·intro b0 hb0 hne
  refine setRow_other w b b0 _ (fun h => hne e hmem hid ?_)
  rw [h]; exact hb1
 ·exact ⟨by rw [hlen]; exact h7, .inr ⟨b, arr', cap, h1, by rw [hlen]; exact h2, setRow_heap w b arr _ et (0, 0) h3, by omega, h5, by omega, rdR_weak W k es' arr' 0 hmx hrd⟩⟩
theorem row_obj (S : St s.own loc B.M0 w.heap) {id et k bs : Nat} {es : List (List DVal)} {e : Ent} (he : findE s.own id = some e) (hob : e.obj = .row et k bs es) (hne : es ≠ []) :
  es.length * bs ≤ 150000000000000 ∧ ∃ b arr cap, (loc id).blks = [b] ∧ (loc id).hdr = .slice (some ⟨b, 0, none⟩) es.length cap ∧ w.heap[b]? = some (.cells arr et (0, 0)) ∧ es.length ≤ cap ∧ cap ≤ maxLen ∧ cap * k = arr.size ∧ rdR (cu s loc) (hm s loc B.M0) w.heap k es arr 0 := by
 obtain ⟨hmem, hid⟩ := findE_ent he
 have hk := S.ok e hmem
 rw [hob] at hk
 obtain ⟨h0, hk⟩ := hk
 rw [hid] at hk
 refine ⟨h0, ?_⟩
 rcases hk with ⟨h, _⟩ | h
 ·exact absurd h hne
 ·exact h
theorem Rel.storeRow {id r n i j : Nat} {et k bs : Nat} {es : List (List DVal)} {c0 : List DVal} {e : Ent} {d : DVal} {t : TypeId} {v : Value} {ad : Value} (R : Rel B s a w loc) (he : findE s.own id = some e) (her : e.r = r) (hob : e.obj = .row et k bs es)
  (ha : Rds s loc B.M0 w (.rx id r k i j) ad) (hd : Rds s loc B.M0 w d v) (hp : plainD s.own d = true) (hc : tCells P t = some (cellsD d).length) (hi : es[i]? = some c0) (hfit : j + (cellsD d).length ≤ k) (hmx : mx d ≤ mxS s.slots) (hn : lim B s ≤ n) :
  ∃ w', (Instr.storeAt t ad v).run P w = .ok () w' ∧ Rel B ⟨s.slots, upE s.own id r (.row et k bs (es.set i (splice c0 j (cellsD d))))⟩ a w' (upL loc id (loc id)) := by
 have hil : i < es.length := (List.getElem?_eq_some_iff.1 hi).1
 obtain ⟨h7, b, arr, cap, h1, h2, h3, h4, h5, h6, hrow⟩ := row_obj (B := B) R.st he hob (by intro h; subst h; simp at hil)
 have hcur : curOf s.own loc id r = some (loc id) := by unfold curOf; rw [he]; simp [her]
 simp only [Rds, rd] at ha
 obtain ⟨b', hb', rfl⟩ := ha _ hcur
 rw [h1] at hb'
 simp only [List.cons.injEq, and_true] at hb'
 subst hb'
 obtain ⟨hcv, hone⟩ := cells_of R.st hp hd
 have hlv := rdV_length _ _ hcv
 simp only [Array.length_toList] at hlv
 have hrl := mul_lt_row (k := k) hil
 have hcap : es.length * k ≤ arr.size := by rw [← h6]; exact Nat.mul_le_mul_right _ h4
 have hrun := run_storeVar (P := P) (w := w) (b := b) (off := i * k + j) (t := t) (v := v) h3 (by rw [hc, hlv]) (by omega) hone
 have hmem := (findE_ent he).1
 have hmxo := (mem_mxE hmem).2
 rw [hob] at hmxo
 simp only [mxO] at hmxo
 refine ⟨_, hrun, R.writeRow (dst := none) (d := .any) (v := Go.undef) he her hob h1 h2 h3 h4 h5 h6 h7 (by simp) (by simp; omega) ?_ ?_ hn (fun i hi => by simp at hi) (fun _ _ _ => by simp [rd])⟩
 ·have := rdR_set (j := j) hrow hi hcv hone hfit hcap
  simpa using this
 ·unfold lim at hn
  refine mxR_set _ _ (by omega) ?_
  have h8 := splice_mx c0 j (cellsD d)
  have h9 := mxR_at hi
  rw [mx_cellsD] at h8
  omega
theorem oneO_nil' {own : List Ent} {d : DVal} (h : oneO [] d = true) : oneO own d = true := by
 cases d <;> simp_all [oneO, isCur, findE, rowsOf]
theorem madeCells_row {z : Array Value} {n i q : Nat} (hz : z.size ≠ 0) (hi : i < n) (hq : q < z.size) : (madeCells z (n * z.size))[i * z.size + q]? = z[q]? := by
 have hlt : i * z.size + q < n * z.size := by have := mul_lt_row (k := z.size) hi; omega
 have e1 : (i * z.size + q) % z.size = q := by rw [Nat.mul_comm, Nat.mul_add_mod]; exact Nat.mod_eq_of_lt hq
 simp [madeCells, hlt, e1, hq]
theorem rd_zeros {cur : Cur} {M : List Nat} {H : Array Obj} {z : Value} {n : Nat} {k : Nat} (hk : z.cells.size = k) (hone : ∀ u ∈ z.cells.toList, u.oneCell' = true) :
  ∀ (arr : Array Value) (o : Nat), (∀ i q, i < n → q < k → arr[o + (i * k + q)]? = z.cells[q]?) → rdR cur M H k (List.replicate n (z.cells.toList.map ofV1)) arr o := by
 intro arr o hq
 refine rdR_mk _ _ _ _ fun i cs hi => ?_
 rw [List.getElem?_replicate] at hi
 split at hi
 ·rename_i hlt
  simp only [Option.some.injEq] at hi
  subst hi
  refine ⟨by simpa using hk, ?_⟩
  have h0 := rdC_of (cur := cur) (M := M) (H := H) (z.cells.toList.map ofV1) z.cells.toList [] [] (rdV_map_ofV1 _) hone
  refine rdC_same _ _ arr _ _ (fun p hp => ?_) h0
  have hp' : p < k := by simp at hp; omega
  rw [Nat.add_assoc, hq i p hlt hp']
  simp
 ·simp at hi
def tZeroE (P : Program) (t : TypeId) : Option (List DVal) := match P.underlying t with
 | some (.slice e) => tZero P e
 | _ => none
theorem ofV1_mx (l : List Value) : mxL (l.map ofV1) = 0 := by
 have h1 : ∀ v, mx (ofV1 v) = 0 := by
  intro v
  unfold ofV1
  split <;> (try split) <;> simp [mx]
 induction l with
 | nil => simp [mxL]
 | cons v l ih => simp [mxL, h1, ih]
theorem mxR_rep {n m : Nat} {cs : List DVal} (h : mxL cs ≤ n) : mxR (List.replicate m cs) ≤ n := mxR_le' fun d hd => by rw [List.eq_of_mem_replicate hd]; exact h
theorem Rel.makeRow {id n : Nat} {t e : TypeId} {k bs : Nat} {zs : List DVal} {kl kc : IntKind} {l c : Int} {dst : Option Nat} (R : Rel B s a w loc) (hlim : lim B s ≤ n) (hdst : ∀ i, dst = some i → i < B.nt)
  (ht : tElem P t = some (k, bs)) (hte : tElemId P t = some e) (hz : tZeroE P t = some zs) (hzo : zs.all (oneO []) = true) (hzl : zs.length = k) (h0 : 0 ≤ l) (hlc : l ≤ c) (hb : c * bs ≤ 150000000000000) (hl : c ≤ 9223372036854775807) :
  ∃ v' w' L, (Instr.makeSlice t (.int kl l) (.int kc c)).run P w = .ok v' w' ∧ Rel B ⟨putS s.slots dst (.osl id n), upE s.own id n (.row e k bs (List.replicate l.toNat zs))⟩ (a.put dst v') w' (upL loc id L) := by
 obtain ⟨e', i, hu, hi, hsz, hby, _⟩ := tElem_some ht
 have hee : e' = e := by unfold tElemId at hte; rw [hu] at hte; simpa using hte
 subst hee
 unfold tZeroE at hz
 rw [hu] at hz
 simp only at hz
 obtain ⟨z, hzr, hzc⟩ : ∃ z, i.zero = some z ∧ zs = z.cells.toList.map ofV1 := by
  unfold tZero at hz
  rw [hi] at hz
  simp only at hz
  rw [Option.map_eq_some_iff] at hz
  obtain ⟨z, h1, h2⟩ := hz
  exact ⟨z, h1, h2.symm⟩
 subst hzc
 simp only [List.length_map, Array.length_toList] at hzl
 have hone : ∀ u ∈ z.cells.toList, u.oneCell' = true := by
  intro u hu'
  have hus : rdV (cu s loc) (hm s loc B.M0) w.heap (z.cells.toList.map ofV1) z.cells.toList := rdV_map_ofV1 _
  exact oneO_all R.st (z.cells.toList.map ofV1) z.cells.toList (List.all_eq_true.2 fun d hd => oneO_nil' (List.all_eq_true.1 hzo d hd)) hus u hu'
 subst hsz; subst hby
 have hrun := run_make (P := P) w t e' i z hu hi hzr kl kc l c h0 hlc (by rw [Int.mul_comm]; omega) hl
 have hw : Upd (hotOf s.own loc) w (w.alloc (.cells (madeCells z.cells (c.toNat * i.size)) e')) := Upd.alloc _ _ _
 have hL : ∀ b0, b0 ∈ (⟨[w.heap.size], .slice (some ⟨w.heap.size, 0, none⟩) l.toNat c.toNat⟩ : Loc).blks → b0 < (w.alloc (.cells (madeCells z.cells (c.toNat * i.size)) e')).heap.size ∧ ((∃ e ∈ s.own, e.id = id ∧ b0 ∈ (loc id).blks) ∨ w.heap.size ≤ b0) := by
  intro b0 hb0
  simp only [List.mem_singleton] at hb0
  subst hb0
  exact ⟨by simp, .inr (Nat.le_refl _)⟩
 refine ⟨_, _, ⟨[w.heap.size], .slice (some ⟨w.heap.size, 0, none⟩) l.toNat c.toNat⟩, hrun, ?_⟩
 have hlN : (List.replicate l.toNat (z.cells.toList.map ofV1)).length = l.toNat := List.length_replicate
 have hbN : l.toNat * i.bytes ≤ 150000000000000 := by
  have h1 : (c.toNat : Int) * i.bytes ≤ 150000000000000 := by rw [Int.toNat_of_nonneg (by omega)]; exact hb
  have h2 : c.toNat * i.bytes ≤ 150000000000000 := by omega
  exact Nat.le_trans (Nat.mul_le_mul_right _ (by omega)) h2
 refine R.up hlim hdst hw (fun b hb _ => by simp only [World.alloc, Array.getElem?_push]; rw [if_neg (by omega)]) hL (.inl (Nat.le_refl _)) ⟨by rw [hlN]; exact hbN, .inr ⟨w.heap.size, _, c.toNat, rfl, by rw [hlN], heap_alloc_new w _, by rw [hlN]; omega, by unfold maxLen; omega, by simp [size_madeCells], ?_⟩⟩ ?_
 ·by_cases hk0 : i.size = 0
  ·refine rdR_mk _ _ _ _ fun q cs hq => ?_
   rw [List.getElem?_replicate] at hq
   split at hq
   ·simp only [Option.some.injEq] at hq
    subst hq
    have : z.cells.toList = [] := List.eq_nil_of_length_eq_zero (by simpa [hk0] using hzl)
    rw [this]
    simp [hk0, rdC]
   ·simp at hq
  ·refine rd_zeros hzl hone _ _ fun q p hq hp => ?_
   rw [Nat.zero_add]
   have := madeCells_row (z := z.cells) (n := c.toNat) (i := q) (q := p) (by omega) (by omega) (by omega)
   rwa [hzl] at this
 ·simp only [rd]
  intro lc hl'
  rw [curOf_up] at hl'
  simp only [Option.some.injEq] at hl'
  rw [← hl']
def clearD (es : List (List DVal)) (i m : Nat) (zs : List DVal) : List (List DVal) := es.take i ++ List.replicate m zs ++ es.drop (i + m)
theorem rdR_clear {cur : Cur} {M : List Nat} {H : Array Obj} {k i m : Nat} {es : List (List DVal)} {z : Value} {arr : Array Value} (hr : rdR cur M H k es arr 0) (hb : i + m ≤ es.length) (hzl : z.cells.size = k) (hone : ∀ u ∈ z.cells.toList, u.oneCell' = true) (hk : k ≠ 0) (hsz : es.length * k ≤ arr.size) :
  rdR cur M H k (clearD es i m (z.cells.toList.map ofV1)) (arr.toList.take (i * k) ++ (Builtin.zeroCells z.cells m).toList ++ arr.toList.drop (i * k + (Builtin.zeroCells z.cells m).toList.length)).toArray 0 := by
 have hlz : (Builtin.zeroCells z.cells m).toList.length = m * k := by simp [size_zeroCells, hzl]
 have hfit : i * k + m * k ≤ arr.size := by rw [← Nat.add_mul]; exact Nat.le_trans (Nat.mul_le_mul_right _ hb) hsz
 refine rdR_mk _ _ _ _ fun q cs hq => ?_
 unfold clearD at hq
 by_cases h1 : q < i
 ·rw [List.append_assoc, List.getElem?_append_left (by simp; omega), List.getElem?_take_of_lt h1] at hq
  obtain ⟨g1, g2⟩ := rdR_at k es arr 0 q cs hr hq
  have := mul_lt_row (k := k) h1
  exact ⟨g1, rdC_same cs arr _ _ _ (fun p hp => seg_out (by omega) (.inl (by omega))) g2⟩
 ·by_cases h2 : q < i + m
  ·rw [List.append_assoc, List.getElem?_append_right (by simp; omega), List.getElem?_append_left (by simp; omega), List.getElem?_replicate, if_pos (by simp; omega)] at hq
   simp only [Option.some.injEq] at hq
   subst hq
   refine ⟨by simpa using hzl, ?_⟩
   have h0 := rdC_of (cur := cur) (M := M) (H := H) (z.cells.toList.map ofV1) z.cells.toList [] [] (rdV_map_ofV1 _) hone
   refine rdC_same _ _ _ _ _ (fun p hp => ?_) h0
   have hp' : p < k := by simp at hp; omega
   have h3 := mul_lt_row (k := k) (show q - i < m by omega)
   have h4 : q * k = i * k + (q - i) * k := by rw [← Nat.add_mul]; congr 1; omega
   simp only [List.getElem?_toArray, Nat.zero_add]
   rw [List.append_assoc, List.getElem?_append_right (by simp; omega), List.getElem?_append_left (by simp [size_zeroCells, hzl]; omega)]
   have e1 : q * k + p - (arr.toList.take (i * k)).length = (q - i) * k + p := by simp; omega
   rw [e1]
   have h5 := madeCells_row (z := z.cells) (n := m) (i := q - i) (q := p) (by omega) (by omega) (by omega)
   rw [hzl] at h5
   have e2 : Builtin.zeroCells z.cells m = madeCells z.cells (m * k) := by simp [Builtin.zeroCells, madeCells, hzl]
   rw [e2]
   simpa using h5
  ·rw [List.getElem?_append_right (by simp; omega), List.getElem?_drop] at hq
   have e1 : i + m + (q - (es.take i ++ List.replicate m (z.cells.toList.map ofV1)).length) = q := by simp; omega
   rw [e1] at hq
   obtain ⟨g1, g2⟩ := rdR_at k es arr 0 q cs hr hq
   refine ⟨g1, rdC_same cs arr _ _ _ (fun p hp => seg_out (by omega) (.inr ?_)) g2⟩
   have : (i + m) * k ≤ q * k := Nat.mul_le_mul_right _ (by omega)
   rw [Nat.add_mul] at this
   omega
theorem part_at (S : St s.own loc B.M0 w.heap) {d : DVal} {id r bs0 i m : Nat} {et k bs : Nat} {es : List (List DVal)} {e : Ent} {v : Value} (he : findE s.own id = some e) (her : e.r = r) (hob : e.obj = .row et k bs es)
  (hv : Rds s loc B.M0 w d v) (hd : d = .osl id r ∧ i = 0 ∧ m = es.length ∨ d = .vw id r k bs0 i m) : ∃ a cap, v = .slice a m cap ∧ (0 < m → ∃ b, (loc id).blks = [b] ∧ a = some ⟨b, i * k, none⟩) := by
 obtain ⟨hcur, a, cap, hh, g1, g2, g3⟩ := row_form S he her hob
 rcases hd with ⟨rfl, rfl, rfl⟩ | rfl
 ·simp only [Rds, rd] at hv
  have := hv _ hcur
  rw [hh] at this
  refine ⟨a, cap, this, fun h => ?_⟩
  rcases g3 with ⟨rfl, _⟩ | ⟨b, hb, rfl⟩
  ·simp at h
  ·exact ⟨b, hb, by simp⟩
 ·simp only [Rds, rd] at hv
  obtain ⟨a, cap, rfl, _, _, _, h, _⟩ := hv _ hcur
  exact ⟨a, cap, rfl, h⟩
theorem Rel.clearRow {d : DVal} {id r k0 bs0 i m n : Nat} {t ty e' : TypeId} {et k bs : Nat} {es : List (List DVal)} {zs : List DVal} {e : Ent} {v : Value} {dst : Option Nat} (R : Rel B s a w loc) (he : findE s.own id = some e) (her : e.r = r) (hob : e.obj = .row et k bs es)
  (hv : Rds s loc B.M0 w d v) (hd : d = .osl id r ∧ i = 0 ∧ m = es.length ∨ d = .vw id r k bs0 i m) (hb : i + m ≤ es.length) (ht : tElem P t = some (k, k0)) (hz : tZeroE P t = some zs) (hzo : zs.all (oneO []) = true) (hzl : zs.length = k) (hk : 0 < k)
  (hlim : lim B s ≤ n) (hdst : ∀ i, dst = some i → i < B.nt) :
  ∃ w', (Builtin.clear_ #[t] ty #[v]).run P w = .ok (.tuple #[]) w' ∧ Rel B ⟨putS s.slots dst (.tup []), upE s.own id r (.row et k bs (clearD es i m zs))⟩ (a.put dst (.tuple #[])) w' (upL loc id (loc id)) := by
 obtain ⟨e1, i1, hu, hi, hsz, hby, _⟩ := tElem_some ht
 unfold tZeroE at hz
 rw [hu] at hz
 simp only at hz
 obtain ⟨z, hzr, hzc⟩ : ∃ z, i1.zero = some z ∧ zs = z.cells.toList.map ofV1 := by
  unfold tZero at hz
  rw [hi] at hz
  simp only at hz
  rw [Option.map_eq_some_iff] at hz
  obtain ⟨z, h1, h2⟩ := hz
  exact ⟨z, h1, h2.symm⟩
 subst hzc
 simp only [List.length_map, Array.length_toList] at hzl
 have hus : ∀ M, rdV (cu s loc) M w.heap (z.cells.toList.map ofV1) z.cells.toList := fun M => rdV_map_ofV1 _
 have hone : ∀ u ∈ z.cells.toList, u.oneCell' = true :=
  oneO_all R.st (z.cells.toList.map ofV1) z.cells.toList (List.all_eq_true.2 fun d hd => oneO_nil' (List.all_eq_true.1 hzo d hd)) (hus _)
 obtain ⟨ad, cap, rfl, hat⟩ := part_at (B := B) R.st he her hob hv hd
 have htup : ∀ cur M h, rd cur M h (.tup []) (.tuple #[]) := fun _ _ _ => by simp only [rd]; exact ⟨#[], rfl, by simp [rdV]⟩
 have hmem := (findE_ent he).1
 have hid := (findE_ent he).2
 have hmxo := (mem_mxE hmem).2
 rw [hob] at hmxo
 simp only [mxO] at hmxo
 by_cases hm : m = 0
 ·subst hm
  have hcl : clearD es i 0 (z.cells.toList.map ofV1) = es := by simp [clearD]
  rw [hcl]
  refine ⟨w, by cases ad <;> simp [Builtin.clear_, run_underlying hu], ?_⟩
  have hcur : curOf s.own loc id r = some (loc id) := by unfold curOf; rw [he]; simp [her]
  have hk' := R.st.ok e hmem
  rw [hob, hid] at hk'
  have hL : ∀ b0, b0 ∈ (loc id).blks → b0 < w.heap.size ∧ ((∃ e ∈ s.own, e.id = id ∧ b0 ∈ (loc id).blks) ∨ w.heap.size ≤ b0) := fun b0 hb0 =>
   ⟨R.st.lt b0 (List.mem_append_left _ (mem_hot hmem (by rw [hid]; exact hb0))), .inl ⟨e, hmem, hid, hb0⟩⟩
  have W := R.weakUp (obj := .row et k bs es) hlim (Upd.refl _ w) hL (.inr hcur)
  unfold lim at hlim
  exact R.up (hLn := by have := blks_nodup R.st.bl e hmem; rwa [hid] at this) (n := n) hlim hdst (Upd.refl _ w) (fun _ _ _ => rfl) hL (.inr hcur) (ObjOK_weak W (by simp only [mxO]; omega) (fun _ _ _ h => h) hk') (htup _ _ _)
 ·obtain ⟨b, hb1, rfl⟩ := hat (by omega)
  obtain ⟨h7, b', arr, cap', h1, h2, h3, h4, h5, h6, hrow⟩ := row_obj (B := B) R.st he hob (by intro h; subst h; simp at hb; omega)
  rw [h1] at hb1
  simp only [List.cons.injEq, and_true] at hb1
  subst hb1
  have hcap : es.length * k ≤ arr.size := by rw [← h6]; exact Nat.mul_le_mul_right _ h4
  have hzn : (Builtin.zeroCells z.cells m).toList.length = m * k := by simp [size_zeroCells, hzl]
  have hfit : i * k + m * k ≤ arr.size := by rw [← Nat.add_mul]; exact Nat.le_trans (Nat.mul_le_mul_right _ hb) hcap
  have hzone : ∀ u ∈ (Builtin.zeroCells z.cells m).toList, u.oneCell' = true := by
   intro u hu'
   simp only [Builtin.zeroCells, Array.toList_map, List.mem_map] at hu'
   obtain ⟨j, _, rfl⟩ := hu'
   have hpos : 0 < z.cells.size := by omega
   have hlt : j % z.cells.size < z.cells.size := Nat.mod_lt _ hpos
   rw [getElem!_pos z.cells _ hlt]
   exact hone _ (by simp)
  have hst := run_storeCells_at P b' (i * k) et (Builtin.zeroCells z.cells m).toList 0 arr w h3 (by rw [hzn]; omega) hzone
  simp only [Nat.add_zero] at hst
  obtain ⟨m', rfl⟩ : ∃ m', m = m' + 1 := ⟨m - 1, by omega⟩
  refine ⟨_, ?_, R.writeRow he her hob h1 h2 h3 h4 h5 h6 h7 (by simp [clearD]; omega) (by simp only [List.size_toArray, List.length_append, List.length_take, List.length_drop, Array.length_toList, hzn]; rw [← Array.length_toList]; rw [← Array.length_toList] at hfit; omega) (rdR_clear hrow hb hzl hone (by omega) hcap) ?_ hlim hdst htup⟩
  ·simp [Builtin.clear_, run_underlying hu, zeroValue, typeInfo, hi, hzr, hst]
  ·unfold clearD
   unfold lim at hlim
   rw [mxR_append, mxR_append]
   have := mxR_take i es
   have := mxR_drop (i + (m' + 1)) es
   have := mxR_rep (n := 0) (m := m' + 1) (Nat.le_of_eq (ofV1_mx z.cells.toList))
   omega
end
def copyD (es : List (List DVal)) (i m : Nat) (es2 : List (List DVal)) : List (List DVal) := es.take i ++ es2.take m ++ es.drop (i + min es2.length m)
theorem copyD_len {es es2 : List (List DVal)} {i m : Nat} (h : i + m ≤ es.length) : (copyD es i m es2).length = es.length := by
 simp only [copyD, List.length_append, List.length_take, List.length_drop]; omega
theorem mxR_take' {es : List (List DVal)} {k n : Nat} (h : mxR es ≤ n) : mxR (es.take k) ≤ n := Nat.le_trans (mxR_take k es) h
theorem mxR_drop' {es : List (List DVal)} {k n : Nat} (h : mxR es ≤ n) : mxR (es.drop k) ≤ n := Nat.le_trans (mxR_drop k es) h
theorem copyD_mx {es es2 : List (List DVal)} {i m n : Nat} (h1 : mxR es ≤ n) (h2 : mxR es2 ≤ n) : mxR (copyD es i m es2) ≤ n := by
 unfold copyD
 rw [mxR_append, mxR_append]
 have := mxR_take' (k := i) h1
 have := mxR_take' (k := m) h2
 have := mxR_drop' (k := i + min es2.length m) h1
 omega
theorem flat_take {k : Nat} : ∀ (rows : List (List Value)) (i : Nat), (∀ r ∈ rows, r.length = k) → (rows.take i).flatten = rows.flatten.take (i * k)
 | [], i, _ => by simp
 | r :: rows, 0, _ => by simp
 | r :: rows, i + 1, h => by
  have hr := h r List.mem_cons_self
  rw [List.take_succ_cons, List.flatten_cons, List.flatten_cons, flat_take rows i fun x hx => h x (List.mem_cons_of_mem _ hx), List.take_append, hr]
  have e1 : (i + 1) * k - k = i * k := by rw [Nat.add_mul]; omega
  rw [e1, List.take_of_length_le (l := r) (by rw [hr, Nat.add_mul]; omega)]
theorem flat_drop {k : Nat} : ∀ (rows : List (List Value)) (i : Nat), (∀ r ∈ rows, r.length = k) → (rows.drop i).flatten = rows.flatten.drop (i * k)
 | [], i, _ => by simp
 | r :: rows, 0, _ => by simp
 | r :: rows, i + 1, h => by
  have hr := h r List.mem_cons_self
  rw [List.drop_succ_cons, List.flatten_cons, flat_drop rows i fun x hx => h x (List.mem_cons_of_mem _ hx), List.drop_append, hr]
  have e1 : (i + 1) * k - k = i * k := by rw [Nat.add_mul]; omega
  rw [e1, List.drop_of_length_le (l := r) (by rw [hr, Nat.add_mul]; omega), List.nil_append]
section
variable {P : Program} {B : Base} {s : DS} {a : Act} {w : World} {loc : Nat → Loc}
theorem rows_k {cur : Cur} {M : List Nat} {H : Array Obj} {k : Nat} {es : List (List DVal)} {rows : List (List Value)} (hl : rows.length = es.length)
  (h : ∀ (i : Nat) (cs : List DVal) (us : List Value), es[i]? = some cs → rows[i]? = some us → cs.length = k ∧ rdV cur M H cs us ∧ ∀ u ∈ us, u.oneCell' = true) : ∀ r ∈ rows, r.length = k := by
 intro r hr
 obtain ⟨i, hi, rfl⟩ := List.getElem_of_mem hr
 obtain ⟨h1, h2, _⟩ := h i es[i] rows[i] (List.getElem?_eq_getElem _) (List.getElem?_eq_getElem _)
 have := rdV_length _ _ h2
 omega
theorem Rel.copyRow {d sd : DVal} {id r k0 bs0 i m n k2 : Nat} {t ty : TypeId} {et k bs : Nat} {es es2 : List (List DVal)} {e : Ent} {v sv : Value} {dst : Option Nat} (R : Rel B s a w loc) (he : findE s.own id = some e) (her : e.r = r) (hob : e.obj = .row et k bs es)
  (hv : Rds s loc B.M0 w d v) (hd : d = .osl id r ∧ i = 0 ∧ m = es.length ∨ d = .vw id r k bs0 i m) (hb : i + m ≤ es.length) (ht : tElem P t = some (k, k0)) (hk : 0 < k)
  (hsv : Rds s loc B.M0 w sd sv) (hsrc : rowsN s.own sd = some (k2, es2)) (hk2 : k2 = k ∨ es2 = []) (hmx2 : mxR es2 ≤ n)
  (hlim : lim B s ≤ n) (hdst : ∀ i, dst = some i → i < B.nt) :
  ∃ w', (Builtin.copy_ #[t, t] ty #[v, sv]).run P w = .ok (goInt (min es2.length m : Nat)) w' ∧ Rel B ⟨putS s.slots dst (.int .i64 (min es2.length m : Nat)), upE s.own id r (.row et k bs (copyD es i m es2))⟩ (a.put dst (goInt (min es2.length m : Nat))) w' (upL loc id (loc id)) := by
 obtain ⟨e1, i1, hu, hi, hsz, hby, _⟩ := tElem_some ht
 obtain ⟨rows2, q1, q2, q3, q4, q5, q6⟩ := src_ok (B := B) R.st hsv hsrc
 obtain ⟨ad, cap, rfl, hat⟩ := part_at (B := B) R.st he her hob hv hd
 have hmem := (findE_ent he).1
 have hid := (findE_ent he).2
 have hmxo := (mem_mxE hmem).2
 rw [hob] at hmxo
 simp only [mxO] at hmxo
 have hrdi : ∀ cur M h, rd cur M h (.int .i64 (min es2.length m : Nat)) (goInt (min es2.length m : Nat)) := by
  intro cur M h
  have h5 : min es2.length m ≤ maxLen := Nat.le_trans (Nat.min_le_left _ _) q5
  unfold maxLen at h5
  simp only [rd, goInt]
  refine ⟨?_, ?_⟩
  ·trivial
  ·simp only [inR]; omega
 by_cases hm : min es2.length m = 0
 ·have hcl : copyD es i m es2 = es := by
   unfold copyD
   rw [hm]
   have : es2.take m = [] := by
    rw [← List.length_eq_zero_iff, List.length_take]; omega
   rw [this, List.append_nil, Nat.add_zero, List.take_append_drop]
  rw [hcl]
  rw [hm] at hrdi ⊢
  have hrun : (Builtin.copy_ #[t, t] ty #[.slice ad m cap, sv]).run P w = .ok (goInt 0) w := by
   have hl : ∀ (x : Addr), (loadCells x 0).run P w = .ok #[] w := fun x => by simpa using run_loadCells_list (P := P) w x [] (by simp)
   rcases q6 with ⟨_, x, cap2, rfl⟩ | ⟨x, cap2, rfl, _⟩
   ·cases ad <;> cases x <;> simp [Builtin.copy_, run_underlying hu, Builtin.lenOf, Builtin.firstCells, sizeOf, typeInfo, hi, storeCells, hl]
   ·have hm' : Nat.min es2.length m = 0 := hm
    cases ad <;> simp [Builtin.copy_, run_underlying hu, Builtin.lenOf, Builtin.firstCells, sizeOf, typeInfo, hi, storeCells, hl, hm']
  refine ⟨w, hrun, ?_⟩
  have hcur : curOf s.own loc id r = some (loc id) := by unfold curOf; rw [he]; simp [her]
  have hk' := R.st.ok e hmem
  rw [hob, hid] at hk'
  have hL : ∀ b0, b0 ∈ (loc id).blks → b0 < w.heap.size ∧ ((∃ e ∈ s.own, e.id = id ∧ b0 ∈ (loc id).blks) ∨ w.heap.size ≤ b0) := fun b0 hb0 =>
   ⟨R.st.lt b0 (List.mem_append_left _ (mem_hot hmem (by rw [hid]; exact hb0))), .inl ⟨e, hmem, hid, hb0⟩⟩
  have W := R.weakUp (obj := .row et k bs es) hlim (Upd.refl _ w) hL (.inr hcur)
  unfold lim at hlim
  exact R.up (hLn := by have := blks_nodup R.st.bl e hmem; rwa [hid] at this) (n := n) hlim hdst (Upd.refl _ w) (fun _ _ _ => rfl) hL (.inr hcur) (ObjOK_weak W (by simp only [mxO]; omega) (fun _ _ _ h => h) hk') (hrdi _ _ _)
 ·have hkk : k2 = k := by
   rcases hk2 with h | h
   ·exact h
   ·subst h; simp at hm
  subst hkk
  obtain ⟨b, hb1, rfl⟩ := hat (by omega)
  obtain ⟨h7, b', arr, cap', h1, h2, h3, h4, h5, h6, hrow⟩ := row_obj (B := B) R.st he hob (by intro h; subst h; simp at hb; omega)
  rw [h1] at hb1
  simp only [List.cons.injEq, and_true] at hb1
  subst hb1
  have hcap : es.length * k2 ≤ arr.size := by rw [← h6]; exact Nat.mul_le_mul_right _ h4
  rcases q6 with ⟨rfl, _⟩ | ⟨x, cap2, rfl, q6⟩
  ·simp at hm
  obtain ⟨c, hc⟩ : ∃ c, c = min es2.length m := ⟨_, rfl⟩
  rw [← hc] at hm hrdi ⊢
  have hrk2 := rows_k q1 q2
  have hcs : (rows2.take c).flatten = rows2.flatten.take (c * k2) := flat_take rows2 c hrk2
  have hcsl : (rows2.take c).flatten.length = c * k2 := by
   rw [hcs, List.length_take, q3]
   have : c * k2 ≤ es2.length * k2 := Nat.mul_le_mul_right _ (by omega)
   omega
  have hone : ∀ u ∈ (rows2.take c).flatten, u.oneCell' = true := fun u hu' => q4 u (by rw [hcs] at hu'; exact List.mem_of_mem_take hu')
  have hsrcc : ∀ (j : Nat) (u : Value), (rows2.take c).flatten[j]? = some u → w.cell? (x.add j) = some u := by
   intro j u hj
   have hlt := (List.getElem?_eq_some_iff.1 hj).1
   rw [hcsl] at hlt
   rw [hcs, List.getElem?_take_of_lt hlt] at hj
   exact q6 j u hj
  have hload := run_loadCells_list (P := P) w x (rows2.take c).flatten hsrcc
  have hfit : i * k2 + c * k2 ≤ arr.size := by
   rw [← Nat.add_mul]; exact Nat.le_trans (Nat.mul_le_mul_right _ (by omega)) hcap
  have hst := run_storeCells_at P b' (i * k2) et (rows2.take c).flatten 0 arr w h3 (by rw [hcsl]; omega) hone
  simp only [Nat.add_zero] at hst
  obtain ⟨rows, r1, r2, r3, r4⟩ := rdR_vals k2 es arr 0 hrow
  have hrk := rows_k r1 r3
  have hflat := take_flat r2 r4 hcap
  have harr : arr.toList = rows.flatten ++ arr.toList.drop (es.length * k2) := by rw [← hflat, List.take_append_drop]
  have hik : i * k2 ≤ rows.flatten.length := by rw [r2]; exact Nat.mul_le_mul_right _ (by omega)
  have hic : i * k2 + c * k2 ≤ rows.flatten.length := by rw [r2, ← Nat.add_mul]; exact Nat.mul_le_mul_right _ (by omega)
  have hnew : (arr.toList.take (i * k2) ++ (rows2.take c).flatten ++ arr.toList.drop (i * k2 + (rows2.take c).flatten.length)) = (rows.take i ++ rows2.take c ++ rows.drop (i + c)).flatten ++ arr.toList.drop (es.length * k2) := by
   have e_t : rows.flatten.take (i * k2) = arr.toList.take (i * k2) := by rw [← hflat, List.take_take, Nat.min_eq_left (by rw [r2] at hik; exact hik)]
   have e_d : arr.toList.drop (i * k2 + c * k2) = rows.flatten.drop ((i + c) * k2) ++ arr.toList.drop (es.length * k2) := by
    rw [Nat.add_mul]
    conv => lhs; rw [harr]
    exact List.drop_append_of_le_length hic
   rw [hcsl, List.flatten_append, List.flatten_append, flat_take rows i hrk, flat_drop rows (i + c) hrk, e_t, e_d, List.append_assoc, List.append_assoc, List.append_assoc]
  refine ⟨_, ?_, R.writeRow (es' := copyD es i m es2) (arr' := (arr.toList.take (i * k2) ++ (rows2.take c).flatten ++ arr.toList.drop (i * k2 + (rows2.take c).flatten.length)).toArray) he her hob h1 h2 h3 h4 h5 h6 h7 (copyD_len hb) ?_ ?_ (copyD_mx (by unfold lim at hlim; omega) hmx2) hlim hdst hrdi⟩
  ·have hc' : c = Nat.min es2.length m := hc
   have hls : es2.length = es2.length := rfl
   rw [hcsl] at hload
   simp [Builtin.copy_, run_underlying hu, Builtin.lenOf, Builtin.firstCells, sizeOf, typeInfo, hi, ← hc', hsz, hload, hst, -List.length_flatten]
  ·simp only [List.size_toArray, List.length_append, List.length_take, List.length_drop, Array.length_toList, hcsl]; omega
  ·rw [hnew]
   refine rdR_of k2 _ _ _ ?_ ?_
   ·simp only [copyD, List.length_append, List.length_take, List.length_drop]; omega
   ·intro j cs us hj hu'
    unfold copyD at hj
    rw [← hc] at hj
    by_cases hj1 : j < i
    ·rw [List.append_assoc, List.getElem?_append_left (by simp; omega), List.getElem?_take_of_lt hj1] at hj
     rw [List.append_assoc, List.getElem?_append_left (by simp; omega), List.getElem?_take_of_lt hj1] at hu'
     exact r3 j cs us hj hu'
    ·by_cases hj2 : j < i + c
     ·rw [List.getElem?_append_left (by simp; omega), List.getElem?_append_right (by simp; omega), List.length_take, Nat.min_eq_left (by omega), List.getElem?_take_of_lt (by omega)] at hj
      rw [List.getElem?_append_left (by simp; omega), List.getElem?_append_right (by simp; omega), List.length_take, Nat.min_eq_left (by omega), List.getElem?_take_of_lt (by omega)] at hu'
      exact q2 _ cs us hj hu'
     ·rw [List.getElem?_append_right (by simp; omega), List.getElem?_drop] at hj
      rw [List.getElem?_append_right (by simp; omega), List.getElem?_drop] at hu'
      simp only [List.length_append, List.length_take] at hj hu'
      rw [show i + c + (j - (min i es.length + min m es2.length)) = j by omega] at hj
      rw [show i + c + (j - (min i rows.length + min c rows2.length)) = j by omega] at hu'
      exact r3 j cs us hj hu'
end
end Go.Dm
end
