/- Parts of a proof, laid together: EvR, EvB. -/
import Derived.Test.YtedjakmhhlilaaaGreatqGx15
set_option linter.unusedSimpArgs false
set_option linter.unusedVariables false
set_option linter.unusedSectionVars false
section
namespace Go.Dm
variable [DMode]
structure RunF (P : Program) (nt : Nat) (ops : Array Oper) (s : DS) (ds : List DVal) (owns : Nat → List Ent) (vers : Nat → Nat) : Prop where
 len : ds.length = ops.size
 o0 : owns 0 = s.own
 v0 : mxS s.slots ≤ vers 0 ∧ mxE s.own ≤ vers 0
 st : ∀ (j : Nat) (o : Oper), ops[j]? = some o → ∃ d, ds[j]? = some d ∧ dstOK nt o.dst = true ∧
  ((isEffF o = true ∧ EffOKF P ops o ⟨lexS s.slots ((ops.toList.zip ds).take j), owns j⟩ d (owns (j + 1)) (vers j) (vers (j + 1))) ∨
   (isEffF o = false ∧ owns (j + 1) = owns j ∧ vers (j + 1) = vers j ∧ OpOKF P ops o ⟨lexS s.slots ((ops.toList.zip ds).take j), owns j⟩ d))
structure FloatF (P : Program) (ops : Array Oper) (s : DS) (ds : List DVal) (owns : Nat → List Ent) : Prop where
 dr : drawOK ops = true
 tot : ∀ (k k' : Nat) (o o' : Oper), ops[k]? = some o → ops[k']? = some o' → isEffF o = true → isEffF o' = true → k < k' → ((masks ops.toList []).getD k' 0).testBit k = true
 fl : ∀ (i k : Nat) (o o' : Oper) (d : DVal), ops[i]? = some o → isEffF o = false → ops[k]? = some o' → isEffF o' = true → ds[i]? = some d →
  (k < i → ((masks ops.toList []).getD i 0).testBit k = false → OpOKF P ops o ⟨lexS s.slots ((ops.toList.zip ds).take i), owns k⟩ d) ∧
  (i < k → ((masks ops.toList []).getD k 0).testBit i = false → OpOKF P ops o ⟨lexS s.slots ((ops.toList.zip ds).take i), owns (k + 1)⟩ d)
section
variable {P : Program} {B : Base} {s : DS}
theorem lexS_snoc (l : List (Nat × DVal)) (zs : List (Oper × DVal)) (z : Oper × DVal) : lexS l (zs ++ [z]) = putS (lexS l zs) z.1.dst z.2 := by
 rw [lexS_append]; rfl
theorem RunF.bnd {nt : Nat} {ops : Array Oper} {ds : List DVal} {owns : Nat → List Ent} {vers : Nat → Nat} (h : RunF P nt ops s ds owns vers) : ∀ j, j ≤ ops.size →
  (mxS (lexS s.slots ((ops.toList.zip ds).take j)) ≤ vers j ∧ mxE (owns j) ≤ vers j) ∧ ∀ i, i ≤ j → vers i ≤ vers j := by
 intro j
 induction j with
 | zero => exact fun _ => ⟨⟨by simp [lexS]; exact h.v0.1, by rw [h.o0]; exact h.v0.2⟩, fun i hi => by rw [Nat.le_zero.1 hi]; exact Nat.le_refl _⟩
 | succ j ih =>
  intro hj
  have hlt : j < ops.size := by omega
  obtain ⟨⟨h1, h2⟩, h3⟩ := ih (by omega)
  have ho : ops[j]? = some ops[j] := by simp [hlt]
  obtain ⟨d, hd, hdst, hst⟩ := h.st j ops[j] ho
  have hz : (ops.toList.zip ds)[j]? = some (ops[j], d) := by rw [List.getElem?_zip_eq_some]; exact ⟨by simp, hd⟩
  have key : vers j ≤ vers (j + 1) ∧ mx d ≤ vers (j + 1) ∧ mxE (owns (j + 1)) ≤ vers (j + 1) := by
   rcases hst with ⟨he, hx⟩ | ⟨he, h4, h5, hx⟩
   ·exact hx.mxB he h2 h1
   ·rw [h4, h5]
    exact ⟨Nat.le_refl _, hx.mxB h2 h1, h2⟩
  refine ⟨⟨?_, key.2.2⟩, fun i hi => ?_⟩
  ·rw [List.take_add_one, hz]
   simp only [Option.toList_some, lexS_snoc]
   refine Nat.le_trans (mxS_putS _ _ _) ?_
   have := key.1; have := key.2.1; omega
  ·by_cases hij : i = j + 1
   ·subst hij; exact Nat.le_refl _
   ·exact Nat.le_trans (h3 i (by omega)) key.1
theorem region_invF {ops : Array Oper} {ds : List DVal} {owns : Nat → List Ent} {vers : Nat → Nat} {nt : Nat} (hrun : RunF P nt ops s ds owns vers) (hfl : FloatF P ops s ds owns) :
  ∃ Inv : Base → Array Bool → Act → World → Prop,
   (∀ B : Base, B.nt = nt → ∀ a w loc, Rel B s a w loc → Inv B (Array.replicate ops.size false) a w.drew) ∧
   (∀ B listed a w, Inv B listed a w → listed.size = ops.size ∧ (Region.ready .any ops listed = [] → ∀ i, i < ops.size → listed.getD i false = true) ∧ ((∀ i, i < ops.size → listed.getD i false = true) → ∃ loc, Rel B ⟨lexS s.slots (ops.toList.zip ds), owns ops.size⟩ a w loc)) ∧
   (∀ (B : Base) listed a w i (C : Act → World → Prop) (Qx : Exit → Act → World → Prop), B.nt = nt → B.N ≤ vers 0 → Inv B listed a w → i ∈ Region.ready .any ops listed → (∀ a' w', Inv B (listed.setIfInBounds i true) a' w' → C a' w') → wpOpIn (wd B.ro) 0 P ops Qx i C a w) ∧
   (∀ (B : Base) (G : Base → Prop) listed a w a' w' t, Inv B listed a w → (∀ o ∈ ops.toList, o.dst ≠ some t) → (∀ X loc, getS X.slots t = getS s.slots t → Rel B X a w loc → ∃ B', G B' ∧ Rel B' X a' w' loc) → ∃ B', G B' ∧ Inv B' listed a' w') := by
 have spec := drawOK_spec hfl.dr
 have hl := hrun.len
 have howns := hrun.o0
 have hl' : ds.length = ops.size := hl
 have zat : ∀ (k : Nat) (z : Oper × DVal), (ops.toList.zip ds)[k]? = some z → ops[k]? = some z.1 ∧ ds[k]? = some z.2 := by
  intro k z hz
  rw [List.getElem?_zip_eq_some] at hz
  exact ⟨by simpa using hz.1, hz.2⟩
 have zat' : ∀ (k : Nat) (o : Oper) (d : DVal), ops[k]? = some o → ds[k]? = some d → (ops.toList.zip ds)[k]? = some (o, d) := by
  intro k o d ho hd
  rw [List.getElem?_zip_eq_some]
  exact ⟨by simpa using ho, hd⟩
 have uniq : ∀ (t k k' : Nat) (z z' : Oper × DVal), (ops.toList.zip ds)[k]? = some z → z.1.dst = some t → (ops.toList.zip ds)[k']? = some z' → z'.1.dst = some t → k' = k :=
  fun t k k' z z' h1 h2 h3 h4 => spec.one k' k z'.1 z.1 t (zat _ _ h3).1 (zat _ _ h1).1 h4 h2
 -- what the slots hold behind the operations of S, and behind the first j
 have agree : ∀ (S : Nat → Bool) (j : Nat) (t : Nat), (∀ (k : Nat) (o : Oper), ops[k]? = some o → o.dst = some t → (S k = true ↔ k < j)) →
   getS (setS s.slots S 0 (ops.toList.zip ds)) t = getS (lexS s.slots ((ops.toList.zip ds).take j)) t := by
  intro S j t hS
  by_cases hex : ∃ (k : Nat) (z : Oper × DVal), (ops.toList.zip ds)[k]? = some z ∧ z.1.dst = some t
  ·obtain ⟨k, z, hz, hd⟩ := hex
   have hSk := hS k z.1 (zat _ _ hz).1 hd
   by_cases hkj : k < j
   ·rw [getS_setS_some _ 0 k z hz hd (by rw [Nat.zero_add]; exact hSk.2 hkj) (fun k' z' h1 h2 => uniq t k k' z z' hz hd h1 h2)]
    rw [getS_lexS_some _ _ k z (by rw [List.getElem?_take_of_lt hkj]; exact hz) hd]
    intro k' z' h1 h2
    have : (ops.toList.zip ds)[k']? = some z' := by
     rw [List.getElem?_take] at h1
     split at h1
     ·exact h1
     ·simp at h1
    exact uniq t k k' z z' hz hd this h2
   ·rw [getS_setS_none _ 0 (fun k' z' h1 h2 => by
     have := uniq t k k' z z' hz hd h1 h2
     subst this
     rw [Nat.zero_add]
     cases hq : S k' with
     | false => rfl
     | true => exact absurd (hSk.1 hq) hkj)]
    rw [getS_lexS_none]
    intro z' hz' h2
    obtain ⟨k', hk', rfl⟩ := List.getElem_of_mem hz'
    have hlt : k' < j := by simp at hk'; omega
    have hget : (ops.toList.zip ds)[k']? = some ((ops.toList.zip ds).take j)[k'] := by
     rw [List.getElem_take]; exact List.getElem?_eq_getElem _
    have := uniq t k k' z _ hz hd hget h2
    omega
  ·rw [getS_setS_none _ 0 (fun k' z' h1 h2 => absurd ⟨k', z', h1, h2⟩ hex), getS_lexS_none]
   intro z' hz' h2
   obtain ⟨k', hk', hq⟩ := List.getElem_of_mem (List.mem_of_mem_take hz')
   exact hex ⟨k', z', by rw [List.getElem?_eq_getElem hk', hq], h2⟩
 have still : ∀ m i, i + m ≤ ops.size → (∀ k o, i ≤ k → k < i + m → ops[k]? = some o → isEffF o = false) → owns (i + m) = owns i ∧ vers (i + m) = vers i := by
  intro m
  induction m with
  | zero => intro i _ _; exact ⟨rfl, rfl⟩
  | succ m ih =>
   intro i hi hk
   have hlt : i + m < ops.size := by omega
   obtain ⟨d, _, _, hst⟩ := hrun.st (i + m) ops[i + m] (by simp [hlt])
   have hne := hk (i + m) ops[i + m] (by omega) (by omega) (by simp [hlt])
   rcases hst with ⟨h1, _⟩ | ⟨_, h5, h6, _⟩
   ·rw [hne] at h1; simp at h1
   ·rw [show i + (m + 1) = i + m + 1 by omega, h5, h6]
    exact ih i (by omega) fun k o h1 h2 h3 => hk k o h1 (by omega) h3
 have same : ∀ i j, i ≤ ops.size → j ≤ ops.size → (∀ k o, ops[k]? = some o → isEffF o = true → (k < j ↔ k < i)) → owns j = owns i ∧ vers j = vers i := by
  intro i j hi hj hk
  by_cases hij : i ≤ j
  ·have := still (j - i) i (by omega) (fun k o h1 h2 h3 => by
    cases hq : isEffF o with
    | false => rfl
    | true => have := (hk k o h3 hq).1 (by omega); omega)
   rwa [show i + (j - i) = j by omega] at this
  ·have := still (i - j) j (by omega) (fun k o h1 h2 h3 => by
    cases hq : isEffF o with
    | false => rfl
    | true => have := (hk k o h3 hq).2 (by omega); omega)
   rw [show j + (i - j) = i by omega] at this
   exact ⟨this.1.symm, this.2.symm⟩
 -- an operation without effect sees the same wherever it may stand
 have floats : ∀ i o d p, ops[i]? = some o → isEffF o = false → ds[i]? = some d → p ≤ ops.size → (∀ k o', ops[k]? = some o' → isEffF o' = true → k < i → ((masks ops.toList []).getD i 0).testBit k = true → k < p) → (∀ k o', ops[k]? = some o' → isEffF o' = true → i < k → ((masks ops.toList []).getD k 0).testBit i = true → p ≤ k) →
   OpOKF P ops o ⟨lexS s.slots ((ops.toList.zip ds).take i), owns i⟩ d → OpOKF P ops o ⟨lexS s.slots ((ops.toList.zip ds).take i), owns p⟩ d := by
  intro i o d p ho hne hd hp ha hb hx
  have hi : i < ops.size := (Array.getElem?_eq_some_iff.1 ho).1
  by_cases hpi : p ≤ i
  ·-- the first effect from p on
   by_cases hex : ∃ k o', p ≤ k ∧ k < i ∧ ops[k]? = some o' ∧ isEffF o' = true
   ·have : ∃ k, (∃ o', p ≤ k ∧ k < i ∧ ops[k]? = some o' ∧ isEffF o' = true) ∧ ∀ k', p ≤ k' → k' < k → ∀ o', ops[k']? = some o' → isEffF o' = false := by
     obtain ⟨k, hk⟩ := hex
     induction k using Nat.strongRecOn with
     | _ k ih =>
      by_cases hq : ∃ k' o', p ≤ k' ∧ k' < k ∧ ops[k']? = some o' ∧ isEffF o' = true
      ·obtain ⟨k', o', h1, h2, h3, h4⟩ := hq
       obtain ⟨_, _, _, _, _⟩ := hk
       exact ih k' h2 ⟨o', h1, by omega, h3, h4⟩
      ·refine ⟨k, hk, fun k' h1 h2 o' h3 => ?_⟩
       cases hq' : isEffF o' with
       | false => rfl
       | true => exact absurd ⟨k', o', h1, h2, h3, hq'⟩ hq
    obtain ⟨k, ⟨o', h1, h2, h3, h4⟩, h5⟩ := this
    have h6 := (hfl.fl i k o o' d ho hne h3 h4 hd).1 h2 (by
     cases hq : ((masks ops.toList []).getD i 0).testBit k with
     | false => rfl
     | true => have := ha k o' h3 h4 h2 hq; omega)
    have h7 := still (k - p) p (by have := (Array.getElem?_eq_some_iff.1 h3).1; omega) fun q o2 g1 g2 g3 => h5 q g1 (by omega) o2 g3
    rw [show p + (k - p) = k by omega] at h7
    rw [← h7.1]
    exact h6
   ·have h7 := still (i - p) p (by omega) fun q o2 g1 g2 g3 => by
     cases hq : isEffF o2 with
     | false => rfl
     | true => exact absurd ⟨q, o2, g1, by omega, g3, hq⟩ hex
    rw [show p + (i - p) = i by omega] at h7
    rw [← h7.1]
    exact hx
  ·by_cases hex : ∃ k o', i ≤ k ∧ k < p ∧ ops[k]? = some o' ∧ isEffF o' = true
   ·have : ∃ k, (∃ o', i ≤ k ∧ k < p ∧ ops[k]? = some o' ∧ isEffF o' = true) ∧ ∀ k', k < k' → k' < p → ∀ o', ops[k']? = some o' → isEffF o' = false := by
     obtain ⟨k, hk⟩ := hex
     generalize hm : p - k = m
     induction m using Nat.strongRecOn generalizing k with
     | _ m ih =>
      by_cases hq : ∃ k' o', k < k' ∧ k' < p ∧ ops[k']? = some o' ∧ isEffF o' = true
      ·obtain ⟨k', o', h1, h2, h3, h4⟩ := hq
       obtain ⟨_, g1, g2, _, _⟩ := hk
       exact ih (p - k') (by omega) k' ⟨o', by omega, h2, h3, h4⟩ rfl
      ·refine ⟨k, hk, fun k' h1 h2 o' h3 => ?_⟩
       cases hq' : isEffF o' with
       | false => rfl
       | true => exact absurd ⟨k', o', h1, h2, h3, hq'⟩ hq
    obtain ⟨k, ⟨o', h1, h2, h3, h4⟩, h5⟩ := this
    have hik : i < k := by
     rcases Nat.lt_or_eq_of_le h1 with h | h
     ·exact h
     ·subst h; rw [ho] at h3; simp only [Option.some.injEq] at h3; subst h3; rw [hne] at h4; simp at h4
    have h6 := (hfl.fl i k o o' d ho hne h3 h4 hd).2 hik (by
     cases hq : ((masks ops.toList []).getD k 0).testBit i with
     | false => rfl
     | true => have := hb k o' h3 h4 hik hq; omega)
    have h7 := still (p - (k + 1)) (k + 1) (by omega) fun q o2 g1 g2 g3 => h5 q (by omega) (by omega) o2 g3
    rw [show k + 1 + (p - (k + 1)) = p by omega] at h7
    rw [h7.1]
    exact h6
   ·have h7 := still (p - i) i (by omega) fun q o2 g1 g2 g3 => by
     cases hq : isEffF o2 with
     | false => rfl
     | true => exact absurd ⟨q, o2, g1, by omega, g3, hq⟩ hex
    rw [show i + (p - i) = p by omega] at h7
    rw [h7.1]
    exact hx
 have hbndE : ∀ p, p ≤ ops.size → mxE (owns p) ≤ vers p := fun p hp => ((hrun.bnd p hp).1).2
 have hmono : ∀ i j, i ≤ j → j ≤ ops.size → vers i ≤ vers j := fun i j hij hj => (hrun.bnd j hj).2 i hij
 have hs0 : mxS s.slots ≤ vers 0 := hrun.v0.1
 have fin : ∀ (B : Base) (listed : Array Bool) (p : Nat) (a : Act) (w : World) (loc : Nat → Loc), listed.size = ops.size → Closed ops (fun k => listed.getD k false) → p ≤ ops.size → (∀ k o, ops[k]? = some o → isEffF o = true → (listed.getD k false = true ↔ k < p)) → Rel B ⟨setS s.slots (fun k => listed.getD k false) 0 (ops.toList.zip ds), owns p⟩ a w loc →
   (∀ i, i < ops.size → listed.getD i false = true) → ∃ loc, Rel B ⟨lexS s.slots (ops.toList.zip ds), owns ops.size⟩ a w loc := by
  intro B listed p a w loc hsz hc hp hpe R hallS
  have heq : owns p = owns ops.size := And.left <| same _ _ (Nat.le_refl _) hp fun k o h1 h2 => by
   have hlt : k < ops.size := (Array.getElem?_eq_some_iff.1 h1).1
   have := hpe k o h1 h2
   simp only [hallS k hlt, true_iff] at this
   omega
  rw [heq] at R
  refine ⟨loc, Rel.congr (fun t => ?_) R⟩
  have := agree (fun k => listed.getD k false) (ops.toList.zip ds).length t (fun k o ho hd => by
   have hlt : k < ops.size := (Array.getElem?_eq_some_iff.1 ho).1
   simp only [hallS k hlt, true_iff, List.length_zip, Array.length_toList, hl', Nat.min_self]; exact hlt)
  rw [this, List.take_length]
 have nready : ∀ (listed : Array Bool), Region.ready .any ops listed = [] → listed.size = ops.size → ∀ i, i < ops.size → listed.getD i false = true := by
  intro listed hr hsz i
  induction i using Nat.strongRecOn with
  | _ i ih =>
   intro hi
   cases hq : listed.getD i false with
   | true => rfl
   | false =>
    exfalso
    have hget : ops[i]? = some ops[i] := Array.getElem?_eq_getElem hi
    have : i ∈ Region.ready .any ops listed := by
     rw [mem_ready]
     refine ⟨?_, ops[i], hget, fun e he hb => ?_⟩
     ·have hi' : i < listed.size := by omega
      simp only [Array.getD_eq_getD_getElem?, Array.getElem?_eq_getElem hi', Option.getD_some] at hq ⊢
      exact hq
     ·have := spec.acy i _ hget e he hb
      exact ih e.on this (by omega)
    rw [hr] at this
    simp at this
 refine ⟨fun B listed a w => listed.size = ops.size ∧ Closed ops (fun k => listed.getD k false) ∧ ∃ p loc, p ≤ ops.size ∧ (∀ k o, ops[k]? = some o → isEffF o = true → (listed.getD k false = true ↔ k < p)) ∧
   (∀ k d, ds[k]? = some d → listed.getD k false = true → mx d ≤ vers p) ∧ mxE (owns p) ≤ vers p ∧
   Rel B ⟨setS s.slots (fun k => listed.getD k false) 0 (ops.toList.zip ds), owns p⟩ a w loc, ?_, ?_, ?_, ?_⟩
 ·intro B hBt a w loc R
  subst hBt
  have hrep : ∀ k, (Array.replicate ops.size false).getD k false = false := by
   intro k
   simp [Array.getD_eq_getD_getElem?, Array.getElem?_replicate]
   split <;> simp
  refine ⟨by simp, ?_, 0, loc, by omega, fun k o hk he => by rw [hrep]; simp, fun k d hk hS => by rw [hrep] at hS; simp at hS, by rw [howns]; exact hrun.v0.2, ?_⟩
  ·intro k o hk hS
   simp [Array.getD_eq_getD_getElem?, Array.getElem?_replicate] at hS
   split at hS <;> simp at hS
  ·have R' := R.put (dst := none) (v := Go.undef) (d := .any) (fun i hi => by simp at hi) (Upd.drew [] w) (by simp [rd])
   rw [howns]
   refine Rel.congr (fun t => ?_) R'
   exact getS_setS_none _ 0 (fun k z hz hd => by
    simp [Array.getD_eq_getD_getElem?, Array.getElem?_replicate]
    split <;> simp)
 ·rintro B listed a w ⟨hsz, hc, p, loc, hp, hpe, hbd, hbo, R⟩
  exact ⟨hsz, fun hr => nready listed hr hsz, fin B listed p a w loc hsz hc hp hpe R⟩
 ·rintro B listed a w i C Qx hBt hBN ⟨hsz, hc, p, loc, hp, hpe, hbd, hbo, R⟩ hi hC
  subst hBt
  rw [mem_ready] at hi
  obtain ⟨h0, o, ho, hpre⟩ := hi
  have hlt : i < ops.size := (Array.getElem?_eq_some_iff.1 ho).1
  have hi' : i < listed.size := by omega
  have hSi : listed.getD i false = false := by
   simp only [Array.getD_eq_getD_getElem?, Array.getElem?_eq_getElem hi', Option.getD_some] at h0 ⊢
   exact h0
  obtain ⟨d, hd, hdst, hst⟩ := hrun.st i o ho
  -- what stands ahead is done; what waits is not
  have anc : ∀ k, ((masks ops.toList []).getD i 0).testBit k = true → listed.getD k false = true := by
   intro k h2
   rw [masks_at] at h2
   simp only [List.length_nil, Nat.not_lt_zero, if_false, Nat.sub_zero] at h2
   have ho' : ops.toList[i]? = some o := by simpa using ho
   rw [ho'] at h2
   obtain ⟨e, he, hb, h3⟩ := maskOf_bit _ _ _ h2
   have hon := hpre e (by simpa using he) hb
   rcases h3 with rfl | h3
   ·exact hon
   ·refine closed_bit hc e.on hon k ?_
    have hlt' := spec.acy i o ho e (by simpa using he) hb
    have : ((masks ops.toList []).take i).getD e.on 0 = (masks ops.toList []).getD e.on 0 := by
     simp [List.getD_eq_getElem?_getD, List.getElem?_take_of_lt hlt']
    rwa [this] at h3
  have des : ∀ k, ((masks ops.toList []).getD k 0).testBit i = true → listed.getD k false = false := by
   intro k h2
   cases hq : listed.getD k false with
   | false => rfl
   | true =>
    have := closed_bit hc k hq i h2
    rw [hSi] at this; simp at this
  -- the slots that the operation looks at
  have look : ∀ t ∈ o.looksAt ops, getS (setS s.slots (fun k => listed.getD k false) 0 (ops.toList.zip ds)) t = getS (lexS s.slots ((ops.toList.zip ds).take i)) t := by
   intro t ht
   refine agree _ i t fun k o' hk hd' => ?_
   rcases spec.ord i o t ho ht k o' hk hd' with ⟨h1, h2⟩ | ⟨h1, h2⟩
   ·exact ⟨fun _ => h1, fun _ => anc k h2⟩
   ·refine ⟨fun hk' => ?_, fun hk' => by omega⟩
    rw [des k h2] at hk'; simp at hk'
  have hS' : (fun k => (listed.setIfInBounds i true).getD k false) = fun k => if k = i then true else listed.getD k false := by
   funext k
   by_cases hk : k = i
   ·subst hk; simp [hi']
   ·rw [if_neg hk, getD_set_ne false (Ne.symm hk)]
  have hS'' : ∀ k, (listed.setIfInBounds i true).getD k false = if k = i then true else listed.getD k false := fun k => congrFun hS' k
  have hslots : mxS (setS s.slots (fun k => listed.getD k false) 0 (ops.toList.zip ds)) ≤ vers p := by
   refine mxS_setS (Nat.le_trans hs0 (hmono 0 p (by omega) hp)) _ _ fun k z hz hS => ?_
   rw [Nat.zero_add] at hS
   exact hbd k z.2 (zat _ _ hz).2 hS
  have hev : ∀ x ∈ o.op.operands, ev (setS s.slots (fun k => listed.getD k false) 0 (ops.toList.zip ds)) x = ev (lexS s.slots ((ops.toList.zip ds).take i)) x := by
   intro x hx
   refine ev_congr fun t hxt => look t ?_
   subst hxt
   exact List.mem_append_left _ (List.mem_filterMap.2 ⟨.tmp t, by simpa using hx, rfl⟩)
  have hg : ∀ j want, o.guard = some (j, want) → gSlot ops ⟨setS s.slots (fun k => listed.getD k false) 0 (ops.toList.zip ds), owns p⟩ j = gSlot ops ⟨lexS s.slots ((ops.toList.zip ds).take i), owns i⟩ j := by
   intro j want hgd
   unfold gSlot
   cases ht : (ops[j]?).bind (·.dst) with
   | none => rfl
   | some t =>
    refine look t (List.mem_append_right _ ?_)
    rw [hgd]
    simp [ht]
  have hg' : ∀ j want, o.guard = some (j, want) → gSlot ops ⟨setS s.slots (fun k => listed.getD k false) 0 (ops.toList.zip ds), owns p⟩ j = gSlot ops ⟨lexS s.slots ((ops.toList.zip ds).take i), owns p⟩ j := fun j want hgd => (hg j want hgd).trans rfl
  -- the next set
  have next : ∀ (p' : Nat) (a' : Act) (w' : World) (loc : Nat → Loc), p' ≤ ops.size → (∀ k o, ops[k]? = some o → isEffF o = true → ((listed.setIfInBounds i true).getD k false = true ↔ k < p')) → vers p ≤ vers p' → mx d ≤ vers p' → mxE (owns p') ≤ vers p' →
    Rel B ⟨putS (setS s.slots (fun k => listed.getD k false) 0 (ops.toList.zip ds)) o.dst d, owns p'⟩ a' w' loc → C a' w' := by
   intro p' a' w' loc hp' hpe' hle hmd hmo R'
   refine hC a' w' ⟨by simpa using hsz, ?_, p', loc, hp', hpe', ?_, hmo, ?_⟩
   ·rw [hS']
    intro k o' hk hS e he hb
    by_cases hki : k = i
    ·subst hki
     rw [ho] at hk
     simp only [Option.some.injEq] at hk
     subst hk
     have := hpre e he hb
     simp only [this]; split <;> rfl
    ·simp only [if_neg hki] at hS
     have := hc k o' hk hS e he hb
     simp only [this]; split <;> rfl
   ·intro k d' hk hS
    rw [hS''] at hS
    by_cases hki : k = i
    ·subst hki
     rw [hd] at hk
     simp only [Option.some.injEq] at hk
     subst hk
     exact hmd
    ·rw [if_neg hki] at hS
     have := hbd k d' hk hS
     omega
   ·rw [hS']
    refine Rel.congr (fun t => ?_) R'
    rw [getS_putS]
    by_cases hdt : o.dst = some t
    ·rw [if_pos hdt]
     exact getS_setS_some _ 0 i (o, d) (zat' i o d ho hd) hdt (by simp) (fun k' z' h1 h2 => uniq t i k' (o, d) z' (zat' i o d ho hd) hdt h1 h2)
    ·rw [if_neg hdt]
     have e1 := fun S j hS => agree S j t hS
     by_cases hex : ∃ (k : Nat) (z : Oper × DVal), (ops.toList.zip ds)[k]? = some z ∧ z.1.dst = some t
     ·obtain ⟨k, z, hz, hd'⟩ := hex
      have hki : k ≠ i := by
       intro hki; subst hki
       have := (zat _ _ hz).1
       rw [ho] at this
       simp only [Option.some.injEq] at this
       exact hdt (by rw [this]; exact hd')
      cases hSk : listed.getD k false with
      | true =>
       rw [getS_setS_some _ 0 k z hz hd' (by rw [Nat.zero_add]; simp [hki, hSk]) (fun k' z' h1 h2 => uniq t k k' z z' hz hd' h1 h2)]
       rw [getS_setS_some _ 0 k z hz hd' (by rw [Nat.zero_add]; exact hSk) (fun k' z' h1 h2 => uniq t k k' z z' hz hd' h1 h2)]
      | false =>
       rw [getS_setS_none _ 0 (fun k' z' h1 h2 => by
        have := uniq t k k' z z' hz hd' h1 h2
        subst this
        rw [Nat.zero_add]; simp [hki, hSk])]
       rw [getS_setS_none _ 0 (fun k' z' h1 h2 => by
        have := uniq t k k' z z' hz hd' h1 h2
        subst this
        rw [Nat.zero_add]; exact hSk)]
     ·rw [getS_setS_none _ 0 (fun k' z' h1 h2 => absurd ⟨k', z', h1, h2⟩ hex), getS_setS_none _ 0 (fun k' z' h1 h2 => absurd ⟨k', z', h1, h2⟩ hex)]
  -- the operation itself
  have hlimp : lim B ⟨setS s.slots (fun k => listed.getD k false) 0 (ops.toList.zip ds), owns p⟩ ≤ vers p := by
   unfold lim
   simp only
   have h0 := hmono 0 p (by omega) hp
   omega
  rcases hst with ⟨heff, hx⟩ | ⟨hneu, hown, hver, hok'⟩
  ·have hord : ∀ k o', ops[k]? = some o' → isEffF o' = true → (k < p ↔ k < i) := by
    intro k o' hk he
    rw [← hpe k o' hk he]
    by_cases hki : k = i
    ·subst hki; rw [hSi]; simp
    ·by_cases hlt' : k < i
     ·exact ⟨fun _ => hlt', fun _ => anc k (hfl.tot k i o' o hk ho he heff hlt')⟩
     ·rw [des k (hfl.tot i k o o' ho hk heff he (by omega))]; simp; omega
   obtain ⟨heq, hveq⟩ := same i p (by omega) hp hord
   have hx' : EffOKF P ops o ⟨setS s.slots (fun k => listed.getD k false) 0 (ops.toList.zip ds), owns p⟩ d (owns (i + 1)) (vers p) (vers (i + 1)) := by
    rw [hveq]
    exact hx.congr (s := ⟨lexS s.slots ((ops.toList.zip ds).take i), owns i⟩) heq.symm (fun x hx => (hev x hx).symm) (fun j want hgd => (hg j want hgd).symm)
   have hmxx := hx'.mxB heff hbo hslots
   refine effF_wp R hlimp ho hdst heff hx' fun a' w' loc' R' => ?_
   refine next (i + 1) a' w' loc' (by omega) ?_ hmxx.1 hmxx.2.1 hmxx.2.2 R'
   intro k o' hk he
   rw [hS'']
   by_cases hki : k = i
   ·rw [if_pos hki]; simp; omega
   ·rw [if_neg hki, hpe k o' hk he, hord k o' hk he]
    omega
  ·have hpe' : ∀ k o', ops[k]? = some o' → isEffF o' = true → ((listed.setIfInBounds i true).getD k false = true ↔ k < p) := by
    intro k o' hk he
    rw [hS'']
    by_cases hki : k = i
    ·subst hki
     rw [ho] at hk
     simp only [Option.some.injEq] at hk
     subst hk
     rw [hneu] at he; simp at he
    ·rw [if_neg hki]; exact hpe k o' hk he
   have h1 := floats i o d p ho hneu hd hp (fun k o' hk he _ hb => (hpe k o' hk he).1 (anc k hb)) (fun k o' hk he _ hb => by
    have := des k hb
    have h2 := hpe k o' hk he
    rw [this] at h2
    simp at h2; exact h2) hok'
   have h2 : OpOKF P ops o ⟨setS s.slots (fun k => listed.getD k false) 0 (ops.toList.zip ds), owns p⟩ d :=
    OpOKF.congr (s := ⟨lexS s.slots ((ops.toList.zip ds).take i), owns p⟩) rfl (fun x hx => (hev x hx).symm) (fun j want hgd => (hg' j want hgd).symm) h1
   refine opF_wp R ho hdst h2 fun a' w' loc' R' => ?_
   exact next p a' w' loc' hp hpe' (Nat.le_refl _) (h2.mxB hbo hslots) hbo R'
 ·rintro B G listed a w a' w' t ⟨hsz, hc, p, loc, hp, hpe, hbd, hbo, R⟩ ht hT
  have hgs := getS_setS_none (l := s.slots) (S := fun k => listed.getD k false) (t := t) (ops.toList.zip ds) 0 (fun k z hz hd => by
   have h1 := (zat _ _ hz).1
   exact absurd hd (ht z.1 (by simpa using Array.mem_of_getElem? h1)))
  obtain ⟨B', hG, R'⟩ := hT _ loc hgs R
  exact ⟨B', hG, hsz, hc, p, loc, hp, hpe, hbd, hbo, R'⟩
theorem DW_region_drawF {ds : List DVal} {owns : Nat → List Ent} {vers : Nat → Nat} {id : Nat} {ops : Array Oper} {Q : Exit → DS → Prop} (hm : P.follows .mixedOrders = true) (hrun : RunF P B.nt ops s ds owns vers) (hfl : FloatF P ops s ds owns) (hN : B.N ≤ vers 0) (hQ : Q .normal ⟨lexS s.slots (ops.toList.zip ds), owns ops.size⟩) : DW P B (.region id ops true) Q s := by
 intro a w loc R
 refine wpIn_region_any hm ?_
 obtain ⟨Inv, h1, h2, h3, _⟩ := region_invF hrun hfl
 have main : ∀ (fuel : Nat) (listed : Array Bool) (a : Act) (w : World), (List.range ops.size).countP (fun k => listed.getD k false) + fuel = ops.size → Inv B listed a w → wpAnyIn (wd B.ro) 0 P .any ops (QQ B Q) fuel listed a w := by
  intro fuel
  induction fuel with
  | zero =>
   intro listed a w hcnt hI
   obtain ⟨hsz, h5, h6⟩ := h2 _ _ _ _ hI
   have hallS : ∀ i, i < ops.size → listed.getD i false = true := by
    intro i hi
    have := (List.countP_eq_length (p := fun k => listed.getD k false) (l := List.range ops.size)).1 (by simpa using hcnt) i (List.mem_range.2 hi)
    simpa using this
   refine ⟨?_, (let ⟨loc, R'⟩ := h6 hallS; ⟨_, loc, hQ, R'⟩)⟩
   rw [List.eq_nil_iff_forall_not_mem]
   intro i hi
   rw [mem_ready] at hi
   obtain ⟨h0, o, ho, _⟩ := hi
   have hlt : i < ops.size := (Array.getElem?_eq_some_iff.1 ho).1
   have h1 := hallS i hlt
   have hi' : i < listed.size := by omega
   simp only [Array.getD_eq_getD_getElem?, Array.getElem?_eq_getElem hi', Option.getD_some] at h0 h1
   rw [h0] at h1; simp at h1
  | succ fuel ih =>
   intro listed a w hcnt hI
   obtain ⟨hsz, h5, h6⟩ := h2 _ _ _ _ hI
   refine ⟨fun hr => (let ⟨loc, R'⟩ := h6 (h5 hr); ⟨_, loc, hQ, R'⟩), fun i hi => h3 B listed a w i _ _ rfl hN hI hi fun a' w' hI' => ih _ a' w' ?_ hI'⟩
   rw [mem_ready] at hi
   obtain ⟨h0, o, ho, hpre⟩ := hi
   have hlt : i < ops.size := (Array.getElem?_eq_some_iff.1 ho).1
   have hi' : i < listed.size := by omega
   have hSi : listed.getD i false = false := by
    simp only [Array.getD_eq_getD_getElem?, Array.getElem?_eq_getElem hi', Option.getD_some] at h0 ⊢
    exact h0
   have hS' : (fun k => (listed.setIfInBounds i true).getD k false) = fun k => if k = i then true else listed.getD k false := by
    funext k
    by_cases hk : k = i
    ·subst hk; simp [hi']
    ·rw [if_neg hk, getD_set_ne false (Ne.symm hk)]
   rw [hS', cnt_set _ i hSi _ hlt]; omega
 refine main ops.size _ a _ ?_ (h1 B rfl a w loc R)
 have : (List.range ops.size).countP (fun k => (Array.replicate ops.size false).getD k false) = 0 := by
  rw [List.countP_eq_zero]
  intro k _
  simp [Array.getD_eq_getD_getElem?, Array.getElem?_replicate]
  split <;> simp
 omega
theorem DW_region_textF {ds : List DVal} {owns : Nat → List Ent} {vers : Nat → Nat} {id : Nat} {ops : Array Oper} {Q : Exit → DS → Prop} (hrun : RunF P B.nt ops s ds owns vers) (hN : B.N ≤ vers 0) (hQ : Q .normal ⟨lexS s.slots (ops.toList.zip ds), owns ops.size⟩) : DW P B (.region id ops false) Q s := by
 intro a w loc R
 refine wpIn_region ?_
 rw [List.range_eq_range']
 have key : ∀ (m i : Nat) (a : Act) (w : World) (loc : Nat → Loc), i + m = ops.size → Rel B ⟨lexS s.slots ((ops.toList.zip ds).take i), owns i⟩ a w loc → wpOpsIn (wd B.ro) 0 P ops (QQ B Q) (List.range' i m) a w := by
  intro m
  induction m with
  | zero =>
   intro i a w loc hi R
   simp only [List.range'_zero, wpOpsIn]
   have hi : i = ops.size := by omega
   subst hi
   rw [List.take_of_length_le (by simp [hrun.len])] at R
   exact ⟨_, loc, hQ, R⟩
  | succ m ih =>
   intro i a w loc hi R
   have hlt : i < ops.size := by omega
   have ho : ops[i]? = some ops[i] := by simp [hlt]
   obtain ⟨d, hd, hdst, hst⟩ := hrun.st i ops[i] ho
   have hz : (ops.toList.zip ds)[i]? = some (ops[i], d) := by rw [List.getElem?_zip_eq_some]; exact ⟨by simp, hd⟩
   have hnx : lexS s.slots ((ops.toList.zip ds).take (i + 1)) = putS (lexS s.slots ((ops.toList.zip ds).take i)) ops[i].dst d := by
    rw [List.take_add_one, hz]
    simp only [Option.toList_some, lexS_snoc]
   obtain ⟨⟨b1, b2⟩, b3⟩ := hrun.bnd i (by omega)
   simp only [List.range'_succ]
   rw [wpOpsIn_cons]
   rcases hst with ⟨he, hx⟩ | ⟨he, h4, h5, hx⟩
   ·refine effF_wp R (r := vers i) ?_ ho hdst he hx fun a' w' loc' R' => ih (i + 1) a' w' loc' (by omega) (by rw [hnx]; exact R')
    unfold lim
    simp only
    have := b3 0 (by omega)
    omega
   ·exact opF_wp R ho hdst hx fun a' w' loc' R' => ih (i + 1) a' w' loc' (by omega) (by rw [hnx, h4]; exact R')
 refine key ops.size 0 a w loc (by omega) ?_
 simp only [List.take_zero, lexS, hrun.o0]; exact R
end
section
variable (P : Program) (own : List Ent) (e : Operand → DVal)
def pickB (t : Bool) : DVal → DVal → Bool
 | .bool _, .sel c (.bool _) => t || c
 | .sel c (.bool _), .bool _ => !t || c
 | _, _ => true
def arrB (d : DVal) (len : Nat) (n : Int) : Bool := decide (0 ≤ n) && decide (n < len) && match d with
 | .ref _ => true
 | .bx id r _ => isCur own id r
 | .rx id r _ _ _ => isCur own id r
 | _ => false
def sliceB (len : Nat) (l h m : Option Operand) : Bool := decide (0 ≤ ixV e 0 l) && decide (ixV e 0 l ≤ ixV e len h) && decide (ixV e len h ≤ ixV e len m) && decide (ixV e len m ≤ len) && (!m.isSome || h.isSome)
def bPreB : Builtin → List DVal → List TypeId → Bool
 | .len, [d], [t] => match d with
  | .str _ => tStr P t
  | .nilsl => (tElem P t).isSome
  | .nilmp => (tMap P t).isSome
  | .mp ks _ => (tMap P t).isSome && decide ((ks.length : Int) ≤ 9223372036854775807)
  | .omp id r => (tMap P t).isSome && match mapOf own (.omp id r) with | some (ks, _) => decide ((ks.length : Int) ≤ 9223372036854775807) | none => false
  | d => (rowsOf own d).isSome && (tElem P t).isSome
 | .min, [.int k _, .int k' _], _ => decide (k = k')
 | .max, [.int k _, .int k' _], _ => decide (k = k')
 | _, _, _ => false
def nPreB : Op → Bool
 | .move _ => true
 | .assign _ => true
 | .pick c a b => match e c with | .bool t => pickB t (e a) (e b) | _ => false
 | .fieldAddr t x f => match tField P t f, e x with
  | some (_, n, _), .ref _ => n != 0
  | some (_, n, _), .bx id r _ => n != 0 && isCur own id r
  | some (_, n, _), .rx id r _ _ _ => n != 0 && isCur own id r
  | _, _ => false
 | .load t a => match tAgg P t, tCells P t, cellsAt own (e a) with
  | some true, some n, some cs => decide (n ≤ cs.length)
  | some false, _, some (_ :: _) => true
  | _, _, _ => false
 | .indexAddr t x i => match e i, tElem P t, rowsOf own (e x) with
  | .int _ n, some (k, _), some (k', _, es) => k == k' && decide (0 ≤ n) && decide (n < es.length)
  | .int _ n, none, _ => (match tArr P t with | some (len, _) => arrB own (e x) len n | none => false)
  | _, _, _ => false
 | .index t x i => match e x, e i with
  | .str s, .int _ n => tStr P t && decide (0 ≤ n) && decide (n < s.size)
  | .agg cs, .int _ n => (match tArrS P t with | some len => decide (0 ≤ n) && decide (n < len) && decide (len ≤ cs.length) | none => false)
  | _, _ => false
 | .field t x f => match tField P t f, e x with
  | some (off, n, b), .agg cs => decide (off + n ≤ cs.length) && (b || n == 1)
  | _, _ => false
 | .binOp op t x y _ => (dbin P op t (e x) (e y)).isSome
 | .unOp op _ x => match op, e x with
  | .not, .bool _ => true
  | .neg, .int _ _ => true
  | _, _ => false
 | .convert src dst x => (P.underlying src).isSome && match e x with
  | .int _ _ => (tInt P dst).isSome
  | .str _ => tStr P dst
  | _ => false
 | .extract x i => match e x with
  | .tup vs => decide (i < vs.length)
  | _ => false
 | .makeFunc _ _ _ => true
 | .nilCheck x => match e x with
  | .ref _ => true
  | .bx id r _ => isCur own id r
  | .rx id r _ _ _ => isCur own id r
  | .fn (.func _) _ _ => true
  | _ => false
 | .build t parts => match tZero P t with
  | some z => (fillD (tPlace P t) z (parts.toList.map fun p => (p.1, e p.2))).isSome && (parts.toList.all fun p => plainD own (e p.2)) && tParts P t
  | none => false
 | .buildSlice t len parts => match tElem P t with
  | some (k, bs) => (parts.toList.map (·.1) == List.range len) && decide (len * k ≤ 16777216) && decide (len * bs ≤ 150000000000000) && decide (len ≤ 16777216) && decide (0 < k) && (parts.toList.all fun p => plainD own (e p.2) && (cellsD (e p.2)).length == k) && tElemZ P t
  | none => false
 | .call c => match c.callee with
  | .builtin b => bPreB P own b (c.args.toList.map e) c.argTypes.toList
  | _ => false
 | .slice t x l h m => match e x with
  | .sl k _ es => (match tElem P t with | some (k', _) => k' == k | none => false) && sliceB e es.length l h m
  | .nilsl => (tElem P t).isSome && sliceB e 0 l h m
  | .osl id r => m.isNone && match rowsOf own (.osl id r) with | some (k, _, es) => (match tElem P t with | some (k', _) => k' == k | none => false) && sliceB e es.length l h none | none => false
  | .vw id r k bs i n => m.isNone && (rowsOf own (.vw id r k bs i n)).isSome && (match tElem P t with | some (k', _) => k' == k | none => false) && sliceB e n l h none
  | .str str => tStr P t && m.isNone && sliceB e str.size l h none
  | _ => false
 | .lookup t x i _ => match tMap P t, mapOf own (e x) with
  | some (kt, et), some (ks, _) => keyOK P kt (e i) && ks.all (keyOK P kt) && (tZeroD P et).isSome
  | _, _ => false
 | _ => false
end
section
variable {P : Program} {own : List Ent} {e : Operand → DVal}
theorem pickB_ok {t : Bool} {a b : DVal} (h : pickB t a b = true) : pickOK t a b := by
 unfold pickOK
 split
 ·intro ht; subst ht; simpa [pickB] using h
 ·intro ht; subst ht; simpa [pickB] using h
 ·trivial
theorem arrB_ok {d : DVal} {len : Nat} {n : Int} (h : arrB own d len n = true) : arrP own d len n := by
 unfold arrB at h
 unfold arrP
 simp only [Bool.and_eq_true, decide_eq_true_eq] at h
 refine ⟨h.1.1, h.1.2, ?_⟩
 have h2 := h.2
 cases d <;> simp_all
theorem sliceB_ok {len : Nat} {l h' m : Option Operand} (h : sliceB e len l h' m = true) : sliceP e len l h' m := by
 unfold sliceB at h
 simp only [Bool.and_eq_true, decide_eq_true_eq] at h
 obtain ⟨⟨⟨⟨h1, h2⟩, h3⟩, h4⟩, h5⟩ := h
 refine ⟨h1, h2, h3, h4, fun hm => ?_⟩
 simpa [hm] using h5
theorem tElem_eq {t : TypeId} {k : Nat} (h : (match tElem P t with | some (k', _) => k' == k | none => false) = true) : tElem P t = some (k, (tElem P t).elim 0 (·.2)) := by
 cases ht : tElem P t with
 | none => rw [ht] at h; simp at h
 | some p => obtain ⟨k', b⟩ := p; rw [ht] at h; simp only [beq_iff_eq] at h; subst h; rfl
theorem bPreB_ok {b : Builtin} {l : List DVal} {ts : List TypeId} (h : bPreB P own b l ts = true) : bPre P own b l ts := by
 unfold bPreB at h
 split at h
 ·rename_i d t
  unfold bPre
  cases d <;> simp only [Bool.and_eq_true, decide_eq_true_eq] at h ⊢ <;> first
   | exact h
   |(refine ⟨h.1, ?_⟩
     have h2 := h.2
     split at h2
     ·rename_i hm; simp only [hm]; simpa using h2
     ·simp at h2)
 ·simpa [bPre] using h
 ·simpa [bPre] using h
 ·simp at h
theorem nPreB_ok {op : Op} (h : nPreB P own e op = true) : nPre P own e op := by
 cases op <;> simp only [nPreB, nPre, reduceCtorEq, Bool.false_eq_true] at h ⊢
 case pick c a b =>
  split at h
  ·rename_i hx; simp only [hx]; exact pickB_ok h
  ·simp at h
 case fieldAddr t x f =>
  split at h <;> simp_all
 case load t a =>
  split at h <;> simp_all
 case indexAddr t x i =>
  split at h
  ·rename_i h1 h2 h3; simp only [h1, h2, h3]; simpa [and_assoc] using h
  ·rename_i h1 h2; simp only [h1, h2]
   split at h
   ·rename_i h3; simp only [h3]; exact arrB_ok h
   ·simp at h
  ·simp at h
 case index t x i =>
  split at h
  ·rename_i h1 h2; simp only [h1, h2]; simpa [and_assoc] using h
  ·rename_i h1 h2; simp only [h1, h2]
   split at h
   ·rename_i h3; simp only [h3]; simpa [and_assoc] using h
   ·simp at h
  ·simp at h
 case field t x f =>
  split at h
  ·rename_i off n b cs h1 h2
   simp only [h1, h2]
   simp only [Bool.and_eq_true, decide_eq_true_eq, Bool.or_eq_true, beq_iff_eq] at h
   refine ⟨h.1, fun hb => ?_⟩
   rcases h.2 with h2 | h2
   ·rw [hb] at h2; simp at h2
   ·exact h2
  ·simp at h
 case binOp => exact h
 case unOp op t x =>
  split at h <;> simp_all
 case convert src dst x =>
  simp only [Bool.and_eq_true] at h
  refine ⟨h.1, ?_⟩
  have h2 := h.2
  split at h2 <;> simp_all
 case extract x i =>
  split at h <;> simp_all
 case nilCheck x =>
  split at h <;> simp_all
 case build t parts =>
  split at h
  ·rename_i h1; simp only [h1]
   simp only [Bool.and_eq_true] at h
   exact ⟨h.1.1, h.1.2, h.2⟩
  ·simp at h
 case buildSlice t len parts =>
  split at h
  ·rename_i hx; simp only [hx]
   simp only [Bool.and_eq_true, decide_eq_true_eq, beq_iff_eq] at h
   obtain ⟨⟨⟨⟨⟨⟨h1, h2⟩, h3⟩, h4⟩, h5⟩, h6⟩, h7⟩ := h
   exact ⟨h1, h2, h3, h4, h5, h6, h7⟩
  ·simp at h
 case call c =>
  split at h
  ·rename_i hx; simp only [hx]; exact bPreB_ok h
  ·simp at h
 case slice t x l h' m =>
  split at h
  ·rename_i hx; simp only [hx]
   simp only [Bool.and_eq_true] at h
   exact ⟨tElem_eq h.1, sliceB_ok h.2⟩
  ·rename_i hx; simp only [hx]
   simp only [Bool.and_eq_true] at h
   exact ⟨h.1, sliceB_ok h.2⟩
  ·rename_i hx; simp only [hx]
   simp only [Bool.and_eq_true, Option.isNone_iff_eq_none] at h
   refine ⟨h.1, ?_⟩
   have h2 := h.2
   split at h2
   ·rename_i hr
    simp only [hr]
    simp only [Bool.and_eq_true] at h2
    exact ⟨tElem_eq h2.1, sliceB_ok h2.2⟩
   ·simp at h2
  ·rename_i hx; simp only [hx]
   simp only [Bool.and_eq_true, Option.isNone_iff_eq_none] at h
   exact ⟨h.1.1.1, h.1.1.2, tElem_eq h.1.2, sliceB_ok h.2⟩
  ·rename_i hx; simp only [hx]
   simp only [Bool.and_eq_true, Option.isNone_iff_eq_none] at h
   exact ⟨h.1.1, h.1.2, sliceB_ok h.2⟩
  ·simp at h
 case lookup t x i ok =>
  split at h
  ·rename_i h1 h2
   simp only [h1, h2]
   simp only [Bool.and_eq_true] at h
   exact ⟨h.1.1, h.1.2, h.2⟩
  ·simp at h
end
end Go.Dm
end
