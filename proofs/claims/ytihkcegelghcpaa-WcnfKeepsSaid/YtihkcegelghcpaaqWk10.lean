/- Parts of a proof, laid together: WK, W75, W74, W72, W73, W100, W58, W29, W30. -/
import Derived.Test.YtihkcegelghcpaaqWk7
import Derived.Test.YtihkcegelghcpaaqWk8
import Derived.Test.YtihkcegelghcpaaqWk9
section
/- The weak normal form's words are as long as before. Plain Lean. -/

set_option linter.unusedSimpArgs false
set_option linter.unusedVariables false
namespace Go.Proofs.Ytihkcegelghcpaa
open Go Go.Dm

/-- a word of length k is derived from a body -/
inductive Der (ps : List Prod) : List Sym → Nat → Prop
  | nil : Der ps [] 0
  | lab (s : Sym) (l : List Sym) (k : Nat) : s.label = true → Der ps l k → Der ps (s :: l) (k + 1)
  | nt (s : Sym) (l : List Sym) (p : Prod) (k1 k2 : Nat) : s.label = false → p ∈ ps → p.head = s.n → Der ps p.body k1 → Der ps l k2 → Der ps (s :: l) (k1 + k2)
theorem Der.mono {ps ps' : List Prod} (h : ∀ p ∈ ps, p ∈ ps') {l : List Sym} {k : Nat} (hd : Der ps l k) : Der ps' l k := by
  induction hd with
  | nil => exact .nil
  | lab s l k hl _ ih => exact .lab s l k hl ih
  | nt s l p k1 k2 hl hp hh _ _ ih1 ih2 => exact .nt s l p k1 k2 hl (h p hp) hh ih1 ih2
theorem Der.app {ps : List Prod} {a b : List Sym} {k1 k2 : Nat} (ha : Der ps a k1) (hb : Der ps b k2) : Der ps (a ++ b) (k1 + k2) := by
  induction ha with
  | nil => simpa using hb
  | lab s l k hl _ ih => rw [show k + 1 + k2 = k + k2 + 1 by omega]; exact .lab s _ _ hl ih
  | nt s l p j1 j2 hl hp hh h1 _ _ ih2 => rw [Nat.add_assoc]; exact .nt s _ p j1 _ hl hp hh h1 ih2
theorem Der.split {ps : List Prod} : ∀ {a b : List Sym} {k : Nat}, Der ps (a ++ b) k → ∃ k1 k2, k = k1 + k2 ∧ Der ps a k1 ∧ Der ps b k2
  | [], b, k, h => ⟨0, k, by omega, .nil, h⟩
  | s :: a, b, k, h => by
    cases h with
    | lab _ _ k hl h =>
      obtain ⟨k1, k2, rfl, h1, h2⟩ := Der.split h
      exact ⟨k1 + 1, k2, by omega, .lab s a k1 hl h1, h2⟩
    | nt _ _ p j1 j2 hl hp hh h1 h2 =>
      obtain ⟨k1, k2, rfl, h3, h4⟩ := Der.split h2
      exact ⟨j1 + k1, k2, by omega, .nt s a p j1 k1 hl hp hh h1 h3, h4⟩
theorem Der.one {ps : List Prod} {p : Prod} {k : Nat} (hp : p ∈ ps) (h : Der ps p.body k) : Der ps [nS p.head] k := by
  have := Der.nt (nS p.head) [] p k 0 rfl hp rfl h .nil
  simpa using this

/-- nonterminals stand for bodies -/
def ex (β : Int → List Sym) (l : List Sym) : List Sym := l.flatMap fun s => if s.label then [s] else β s.n
theorem ex_nil (β : Int → List Sym) : ex β [] = [] := rfl
theorem ex_cons (β : Int → List Sym) (s : Sym) (l : List Sym) : ex β (s :: l) = (if s.label then [s] else β s.n) ++ ex β l := rfl
theorem ex_congr {β β' : Int → List Sym} {N : Int} (h : ∀ n, n < N → β' n = β n) : ∀ {l : List Sym}, (∀ s ∈ l, s.label = false → s.n < N) → ex β' l = ex β l
  | [], _ => rfl
  | s :: l, hl => by
    rw [ex_cons, ex_cons, ex_congr h fun t ht => hl t (List.mem_cons_of_mem _ ht)]
    cases hs : s.label
    · simp only [Bool.false_eq_true, if_false]; rw [h _ (hl s List.mem_cons_self hs)]
    · rfl
/-- what is derived from the bodies that nonterminals stand for: if each production is one -/
theorem Der.ex {ps qs : List Prod} {β : Int → List Sym} (h : ∀ q ∈ qs, ∀ k, Der ps (ex β q.body) k → Der ps (β q.head) k) {l : List Sym} {k : Nat} (hd : Der qs l k) : Der ps (ex β l) k := by
  induction hd with
  | nil => exact .nil
  | lab s l k hl _ ih => rw [ex_cons, if_pos hl]; exact .lab s _ k hl ih
  | nt s l p k1 k2 hl hp hh _ _ ih1 ih2 =>
    rw [ex_cons, if_neg (by simp [hl]), ← hh]
    exact (h p hp k1 ih1).app ih2
theorem Der.unex {ps : List Prod} {β : Int → List Sym} : ∀ {l : List Sym}, (∀ s ∈ l, s.label = false → ∀ k, Der ps (β s.n) k → Der ps [nS s.n] k) → ∀ {k : Nat}, Der ps (Go.Proofs.Ytihkcegelghcpaa.ex β l) k → Der ps l k
  | [], _, _, hd => hd
  | s :: l, h, k, hd => by
    rw [ex_cons] at hd
    cases hs : s.label
    · rw [if_neg (by simp [hs])] at hd
      obtain ⟨k1, k2, rfl, h1, h2⟩ := hd.split
      have h3 := h s List.mem_cons_self hs k1 h1
      have h4 := Der.unex (fun t ht => h t (List.mem_cons_of_mem _ ht)) h2
      have : s = nS s.n := by cases s; simp_all [nS]
      rw [this]
      exact h3.app h4
    · rw [if_pos hs] at hd
      cases hd with
      | lab _ _ k _ h2 => exact .lab s l k hs (Der.unex (fun t ht => h t (List.mem_cons_of_mem _ ht)) h2)
      | nt _ _ p k1 k2 hl _ _ _ _ => rw [hs] at hl; simp at hl

/-- what a maker's nonterminals stand for -/
structure Inv (c : Cnf) (m : Mk) (β : Int → List Sym) (ds : List Prod) : Prop where
  lo : ∀ n, n < c.nts → β n = [nS n]
  le : c.nts ≤ m.nts
  snd : ∀ q ∈ m.prods, (∃ p ∈ c.prods, p.head = q.head ∧ ex β q.body = p.body) ∨ (c.nts ≤ q.head ∧ ex β q.body = β q.head)
  made : ∀ n, c.nts ≤ n → n < m.nts → ∃ q ∈ m.prods, q.head = n ∧ ex β q.body = β n ∧ ∀ s ∈ q.body, s.label = false → s.n < c.nts ∨ (β s.n).length < (β n).length
  hs : ∀ a h, lookA m.hs a = some h → β h = [⟨true, a⟩]
  no : m.no ≠ 0 → β m.no = []
  done : ∀ p ∈ ds, ∃ q ∈ m.prods, q.head = p.head ∧ ex β q.body = p.body
theorem Inv.same {c : Cnf} {m : Mk} {β : Int → List Sym} {ds : List Prod} (I : Inv c m β ds) (G : GoodM m) (hc : ∀ p ∈ c.prods, p.head < c.nts) (hds : ∀ p ∈ c.prods, p ∈ ds) {n : Int} (hn : n < c.nts) (k : Nat) : Der c.prods [nS n] k ↔ Der m.prods [nS n] k := by
  have up : ∀ L n, (β n).length ≤ L → n < m.nts → ∀ k, Der m.prods (β n) k → Der m.prods [nS n] k := by
    intro L
    induction L with
    | zero =>
      intro n hl hn k hd
      by_cases h : n < c.nts
      · rw [I.lo n h] at hl; simp at hl
      · obtain ⟨q, hq, h1, h2, h3⟩ := I.made n (by omega) hn
        rw [← h1]
        refine Der.one hq (Der.unex (β := β) (fun s hs hb k hk => ?_) (by rw [h2]; exact hd))
        rcases h3 s hs hb with h4 | h4
        · rwa [I.lo _ h4] at hk
        · omega
    | succ L ih =>
      intro n hl hn k hd
      by_cases h : n < c.nts
      · rwa [I.lo n h] at hd
      · obtain ⟨q, hq, h1, h2, h3⟩ := I.made n (by omega) hn
        rw [← h1]
        refine Der.one hq (Der.unex (β := β) (fun s hs hb k hk => ?_) (by rw [h2]; exact hd))
        rcases h3 s hs hb with h4 | h4
        · rwa [I.lo _ h4] at hk
        · refine ih s.n (by omega) ?_ k hk
          have := (G.ps q hq).2.2 s hs
          unfold symG at this
          rw [if_neg (by simp [hb])] at this
          exact this.2
  constructor
  · intro h
    have key : ∀ l k, Der c.prods l k → Der m.prods l k := by
      intro l k hd
      induction hd with
      | nil => exact .nil
      | lab s l k hl _ ih => exact .lab s l k hl ih
      | nt s l p k1 k2 hl hp hh _ _ ih1 ih2 =>
        obtain ⟨q, hq, h1, h2⟩ := I.done p (hds p hp)
        refine .nt s l q k1 k2 hl hq (h1.trans hh) (Der.unex (β := β) (fun t ht hb k hk => up (β t.n).length t.n (Nat.le_refl _) ?_ k hk) (by rw [h2]; exact ih1)) ih2
        have := (G.ps q hq).2.2 t ht
        unfold symG at this
        rw [if_neg (by simp [hb])] at this
        exact this.2
    exact key _ _ h
  · intro h
    have h1 := Der.ex (ps := c.prods) (β := β) (fun q hq k hk => by
      rcases I.snd q hq with ⟨p, hp, h1, h2⟩ | ⟨_, h2⟩
      · rw [h2] at hk
        rw [← h1, I.lo _ (hc p hp)]
        exact Der.one hp hk
      · rwa [h2] at hk) h
    have e : ex β [nS n] = [nS n] := by
      rw [ex_cons, ex_nil]
      simp [nS, I.lo n hn]
    rwa [e] at h1

/-- β goes on as far as N -/
theorem Inv.ext {c : Cnf} {m : Mk} {β β' : Int → List Sym} {ds : List Prod} (I : Inv c m β ds) (G : GoodM m) (h : ∀ n, n < m.nts → β' n = β n) : Inv c m β' ds := by
  have hb : ∀ q ∈ m.prods, ∀ s ∈ q.body, s.label = false → s.n < m.nts := by
    intro q hq s hs hl
    have := (G.ps q hq).2.2 s hs
    unfold symG at this
    rw [if_neg (by simp [hl])] at this
    exact this.2
  have he : ∀ q ∈ m.prods, ex β' q.body = ex β q.body := fun q hq => ex_congr h (hb q hq)
  refine ⟨fun n hn => by rw [h n (by have := I.le; omega)]; exact I.lo n hn, I.le, fun q hq => ?_, fun n h1 h2 => ?_, fun a x hx => ?_, fun hn => ?_, fun p hp => ?_⟩
  · rw [he q hq, h _ (G.ps q hq).1.2]; exact I.snd q hq
  · obtain ⟨q, hq, g1, g2, g3⟩ := I.made n h1 h2
    refine ⟨q, hq, g1, by rw [he q hq, h n h2]; exact g2, fun s hs hl => ?_⟩
    rw [h n h2, h s.n (hb q hq s hs hl)]
    exact g3 s hs hl
  · rw [h x (G.hs a x hx).2]; exact I.hs a x hx
  · rw [h _ (by have := G.no.2; omega)]; exact I.no hn
  · obtain ⟨q, hq, g1, g2⟩ := I.done p hp
    exact ⟨q, hq, g1, by rw [he q hq]; exact g2⟩

theorem ex_map (β : Int → List Sym) (l : List Int) : ex β (l.map nS) = l.flatMap β := by
  induction l with
  | nil => rfl
  | cons a l ih => rw [List.map_cons, ex_cons, ih, List.flatMap_cons]; simp [nS]
theorem Inv.grow {c : Cnf} {m m' : Mk} {β β' : Int → List Sym} {ds : List Prod} (I : Inv c m β ds) (G : GoodM m) (qs : List Prod) (hp : m'.prods = m.prods ++ qs) (hn : m.nts ≤ m'.nts) (hβ : ∀ n, n < m.nts → β' n = β n)
    (hs : ∀ q ∈ qs, (∃ p ∈ c.prods, p.head = q.head ∧ ex β' q.body = p.body) ∨ (c.nts ≤ q.head ∧ ex β' q.body = β' q.head))
    (hm : ∀ n, m.nts ≤ n → n < m'.nts → ∃ q ∈ qs, q.head = n ∧ ex β' q.body = β' n ∧ ∀ s ∈ q.body, s.label = false → s.n < c.nts ∨ (β' s.n).length < (β' n).length)
    (hh : ∀ a h, lookA m'.hs a = some h → β' h = [⟨true, a⟩]) (hno : m'.no ≠ 0 → β' m'.no = []) : Inv c m' β' ds := by
  have J := I.ext G hβ
  refine ⟨J.lo, Int.le_trans J.le hn, fun q hq => ?_, fun n h1 h2 => ?_, hh, hno, fun p hp' => ?_⟩
  · rw [hp] at hq
    rcases List.mem_append.1 hq with hq | hq
    · exact J.snd q hq
    · exact hs q hq
  · rw [hp]
    by_cases h3 : n < m.nts
    · obtain ⟨q, hq, g⟩ := J.made n h1 h3
      exact ⟨q, List.mem_append_left _ hq, g⟩
    · obtain ⟨q, hq, g⟩ := hm n (by omega) h2
      exact ⟨q, List.mem_append_right _ hq, g⟩
  · obtain ⟨q, hq, g⟩ := J.done p hp'
    exact ⟨q, by rw [hp]; exact List.mem_append_left _ hq, g⟩
theorem Inv.sym {c : Cnf} {m : Mk} {β : Int → List Sym} {ds : List Prod} (I : Inv c m β ds) (G : GoodM m) {s : Sym} (hs : s.label = false → s.n < c.nts) :
    ∃ β' : Int → List Sym, (∀ n, n < m.nts → β' n = β n) ∧ Inv c (m.sym s).1 β' ds ∧ β' (m.sym s).2 = [s] := by
  unfold Mk.sym
  split
  · rename_i hl
    split
    · rename_i x hx
      refine ⟨β, fun _ _ => rfl, I, ?_⟩
      rw [I.hs _ _ hx, ← hl]
    · rename_i hx
      have hb : ∀ n, n < m.nts → (fun n => if n = m.nts then [s] else β n) n = β n := fun n hn => if_neg (by omega)
      have J := I.ext G hb
      refine ⟨fun n => if n = m.nts then [s] else β n, hb, I.grow G [⟨m.nts, [s]⟩] rfl (by simp only; omega) hb ?_ ?_ ?_ J.no, if_pos rfl⟩
      · intro q hq
        simp only [List.mem_singleton] at hq
        subst hq
        exact .inr ⟨I.le, by simp [ex_cons, ex_nil, hl]⟩
      · intro n h1 h2
        have : n = m.nts := by simp only at h2; omega
        subst this
        refine ⟨_, List.mem_singleton.2 rfl, rfl, by simp [ex_cons, ex_nil, hl], fun t ht htl => ?_⟩
        simp only [List.mem_singleton] at ht
        subst ht
        rw [hl] at htl
        simp at htl
      · intro a h hx'
        simp only [lookA_app] at hx'
        split at hx'
        · rename_i y hy
          simp only [Option.some.injEq] at hx'
          subst hx'
          exact J.hs _ _ hy
        · split at hx'
          · rename_i ha
            simp only [Option.some.injEq] at hx'
            subst hx'
            simp only [if_true]
            rw [ha, ← hl]
          · simp at hx'
  · rename_i hl
    simp only [Bool.not_eq_true] at hl
    refine ⟨β, fun _ _ => rfl, I, ?_⟩
    rw [I.lo _ (hs hl)]
    unfold nS
    rw [← hl]
theorem Inv.syms {c : Cnf} {ds : List Prod} : ∀ {l : List Sym} {m : Mk} {β : Int → List Sym}, Inv c m β ds → GoodM m → (∀ s ∈ l, symG m.nts s ∧ (s.label = false → s.n < c.nts)) →
    ∃ β' : Int → List Sym, (∀ n, n < m.nts → β' n = β n) ∧ Inv c (m.syms l).1 β' ds ∧ (m.syms l).2.map β' = l.map fun s => [s]
  | [], m, β, I, _, _ => ⟨β, fun _ _ => rfl, I, rfl⟩
  | s :: l, m, β, I, G, hs => by
    obtain ⟨β1, h1, I1, h2⟩ := I.sym G (hs s List.mem_cons_self).2
    obtain ⟨G1, g2, g3⟩ := good_sym G (hs s List.mem_cons_self).1
    have hle := (sym_gap m s).2.1
    obtain ⟨β2, h3, I2, h4⟩ := Inv.syms I1 G1 fun t ht => ⟨symG_mono hle (hs t (List.mem_cons_of_mem _ ht)).1, (hs t (List.mem_cons_of_mem _ ht)).2⟩
    refine ⟨β2, fun n hn => by rw [h3 n (by omega), h1 n hn], I2, ?_⟩
    simp only [Mk.syms, List.map_cons, h4]
    rw [h3 _ g3, h2]
theorem Inv.nothing {c : Cnf} {m : Mk} {β : Int → List Sym} {ds : List Prod} (I : Inv c m β ds) (G : GoodM m) :
    ∃ β' : Int → List Sym, (∀ n, n < m.nts → β' n = β n) ∧ Inv c m.nothing β' ds ∧ β' m.nothing.no = [] := by
  unfold Mk.nothing
  split
  · have hb : ∀ n, n < m.nts → (fun n => if n = m.nts then [] else β n) n = β n := fun n hn => if_neg (by omega)
    have J := I.ext G hb
    refine ⟨fun n => if n = m.nts then [] else β n, hb, I.grow G [⟨m.nts, []⟩] rfl (by simp only; omega) hb ?_ ?_ J.hs fun _ => if_pos rfl, if_pos rfl⟩
    · intro q hq
      simp only [List.mem_singleton] at hq
      subst hq
      exact .inr ⟨I.le, by simp [ex_nil]⟩
    · intro n h1 h2
      have : n = m.nts := by simp only at h2; omega
      subst this
      exact ⟨_, List.mem_singleton.2 rfl, rfl, by simp [ex_nil], by simp⟩
  · rename_i h
    exact ⟨β, fun _ _ => rfl, I, I.no h⟩
theorem chain_sound (β : Int → List Sym) : ∀ (l : List Int) (nts head : Int), 2 ≤ l.length → (∀ i, i < l.length - 2 → β (nts + i) = (l.drop (i + 1)).flatMap β) →
    (∃ q ∈ chainP nts head l, q.head = head ∧ ex β q.body = l.flatMap β ∧ ((∀ n ∈ l, (β n).length = 1) → ∀ s ∈ q.body, (β s.n).length < (l.flatMap β).length)) ∧
    (∀ q ∈ chainP nts head l, (q.head = head ∧ ex β q.body = l.flatMap β) ∨ (nts ≤ q.head ∧ ex β q.body = β q.head)) ∧
    ((∀ n ∈ l, (β n).length = 1) → ∀ n, nts ≤ n → n < nts + (l.length - 2 : Nat) → ∃ q ∈ chainP nts head l, q.head = n ∧ ex β q.body = β n ∧ ∀ s ∈ q.body, (β s.n).length < (β n).length)
  | [], _, _, h, _ => by simp at h
  | [_], _, _, h, _ => by simp at h
  | [a, b], nts, head, _, _ => by
    have h : ex β [nS a, nS b] = [a, b].flatMap β := ex_map β [a, b]
    refine ⟨⟨_, List.mem_singleton.2 rfl, rfl, h, fun h1 s hs => ?_⟩, fun q hq => ?_, fun _ n h1 h2 => by simp at h2; omega⟩
    · have g1 := h1 a (by simp)
      have g2 := h1 b (by simp)
      simp only [List.mem_cons, List.not_mem_nil, or_false] at hs
      rcases hs with rfl | rfl <;> simp [nS, g1, g2]
    · simp only [chainP, List.mem_singleton] at hq
      subst hq
      exact .inl ⟨rfl, h⟩
  | a :: b :: c :: r, nts, head, _, hβ => by
    have h0 : β nts = (b :: c :: r).flatMap β := by simpa using hβ 0 (by simp)
    obtain ⟨⟨q, q1, q2, q3, q4⟩, k2, k3⟩ := chain_sound β (b :: c :: r) (nts + 1) nts (by simp) (fun i hi => by
      have := hβ (i + 1) (by simp at hi ⊢; omega)
      rw [show nts + 1 + (i : Int) = nts + ((i + 1 : Nat) : Int) by omega, this]
      simp)
    have h : ex β [nS a, nS nts] = (a :: b :: c :: r).flatMap β := by
      rw [show [nS a, nS nts] = [a, nts].map nS from rfl, ex_map]
      simp only [List.flatMap_cons, List.flatMap_nil, List.append_nil, h0]
    refine ⟨⟨⟨head, [nS a, nS nts]⟩, by simp [chainP], rfl, h, fun h1 s hs => ?_⟩, fun p hp => ?_, fun h1 n hn1 hn2 => ?_⟩
    · have g1 := h1 a (by simp)
      have g2 := h1 b (by simp)
      have g3 : (b :: c :: r).flatMap β = β b ++ (c :: r).flatMap β := List.flatMap_cons
      simp only [List.mem_cons, List.not_mem_nil, or_false] at hs
      rw [List.flatMap_cons, List.length_append]
      rcases hs with rfl | rfl
      · simp only [nS]; rw [g3, List.length_append]; omega
      · simp only [nS]; rw [h0]; omega
    · simp only [chainP, List.mem_cons] at hp
      rcases hp with rfl | hp
      · exact .inl ⟨rfl, h⟩
      · rcases k2 p (by simpa using hp) with ⟨g1, g2⟩ | ⟨g1, g2⟩
        · exact .inr ⟨by omega, by rw [g2, g1, h0]⟩
        · exact .inr ⟨by omega, g2⟩
    · have h1' : ∀ n ∈ b :: c :: r, (β n).length = 1 := fun n hn => h1 n (List.mem_cons_of_mem _ hn)
      by_cases hn : n = nts
      · subst hn
        exact ⟨q, by simp only [chainP, List.mem_cons]; exact .inr (by simpa using q1), q2, by rw [q3, h0], fun s hs => by rw [h0]; exact q4 h1' s hs⟩
      · obtain ⟨p, p1, p2⟩ := k3 h1' n (by omega) (by simp at hn2 ⊢; omega)
        exact ⟨p, by simp only [chainP, List.mem_cons]; exact .inr (by simpa using p1), p2⟩
theorem Inv.chain {c : Cnf} {m : Mk} {β : Int → List Sym} {ds : List Prod} (I : Inv c m β ds) (G : GoodM m) {p : Prod} (hp : p ∈ c.prods) {ns : List Int} (h2 : 2 ≤ ns.length) (hl : ∀ n ∈ ns, n < m.nts) (hb : ns.flatMap β = p.body) (ho : ns.length = 2 ∨ ∀ n ∈ ns, (β n).length = 1) :
    ∃ β' : Int → List Sym, Inv c (m.chain p.head ns) β' (p :: ds) := by
  let β' : Int → List Sym := fun n => if n < m.nts then β n else (ns.drop ((n - m.nts).toNat + 1)).flatMap β
  have hβ : ∀ n, n < m.nts → β' n = β n := fun n hn => if_pos hn
  have hf : ∀ l : List Int, (∀ n ∈ l, n < m.nts) → l.flatMap β' = l.flatMap β := by
    intro l
    induction l with
    | nil => intro _; rfl
    | cons a l ih => intro h; rw [List.flatMap_cons, List.flatMap_cons, ih fun n hn => h n (List.mem_cons_of_mem _ hn), hβ a (h a List.mem_cons_self)]
  have hns := hf ns hl
  obtain ⟨⟨q, q1, q2, q3, _⟩, k2, k3⟩ := chain_sound β' ns m.nts p.head h2 fun i hi => by
    rw [hf _ fun n hn => hl n (List.mem_of_mem_drop hn)]
    show (if m.nts + (i : Int) < m.nts then _ else _) = _
    rw [if_neg (by omega), show (m.nts + (i : Int) - m.nts).toNat = i by omega]
  have J := I.ext G hβ
  have K : Inv c (m.chain p.head ns) β' ds := by
    refine I.grow G (chainP m.nts p.head ns) rfl (by simp only [Mk.chain]; omega) hβ (fun q hq => ?_) (fun n h1 h2' => ?_) J.hs J.no
    · rcases k2 q hq with ⟨g1, g2⟩ | ⟨g1, g2⟩
      · exact .inl ⟨p, hp, g1.symm, by rw [g2, hns, hb]⟩
      · exact .inr ⟨by have := I.le; omega, g2⟩
    · rcases ho with ho | ho
      · simp only [Mk.chain, ho] at h2'; omega
      · obtain ⟨q, g1, g2, g3, g4⟩ := k3 (fun n hn => by rw [hβ n (hl n hn)]; exact ho n hn) n h1 h2'
        exact ⟨q, g1, g2, g3, fun s hs _ => .inr (g4 s hs)⟩
  refine ⟨β', K.lo, K.le, K.snd, K.made, K.hs, K.no, fun p' hp' => ?_⟩
  rcases List.mem_cons.1 hp' with rfl | hp'
  · exact ⟨q, List.mem_append_right _ q1, q2, by rw [q3, hns, hb]⟩
  · exact K.done p' hp'
theorem map_sing {β : Int → List Sym} : ∀ {ns : List Int} {l : List Sym}, ns.map β = l.map (fun s => [s]) → ns.flatMap β = l ∧ ∀ n ∈ ns, (β n).length = 1
  | [], [], _ => ⟨rfl, by simp⟩
  | [], _ :: _, h => by simp at h
  | _ :: _, [], h => by simp at h
  | n :: ns, s :: l, h => by
    simp only [List.map_cons, List.cons.injEq] at h
    obtain ⟨h1, h2⟩ := map_sing h.2
    refine ⟨by rw [List.flatMap_cons, h.1, h1]; rfl, fun k hk => ?_⟩
    rcases List.mem_cons.1 hk with rfl | hk
    · rw [h.1]; rfl
    · exact h2 k hk
theorem Inv.add {c : Cnf} {m : Mk} {β : Int → List Sym} {ds : List Prod} (I : Inv c m β ds) (G : GoodM m) {p : Prod} (hp : p ∈ c.prods) (hs : ∀ s ∈ p.body, symG c.nts s) : ∃ β' : Int → List Sym, Inv c (m.add p) β' (p :: ds) := by
  have hs' : ∀ s ∈ p.body, symG m.nts s ∧ (s.label = false → s.n < c.nts) := fun s h => ⟨symG_mono I.le (hs s h), fun hl => by
    have := hs s h
    unfold symG at this
    rw [if_neg (by simp [hl])] at this
    exact this.2⟩
  unfold Mk.add
  split
  · have hb : ex β p.body = p.body := by
      have : ∀ l : List Sym, (∀ s ∈ l, s.label = false → s.n < c.nts) → ex β l = l := by
        intro l
        induction l with
        | nil => intro _; rfl
        | cons s l ih =>
          intro h
          rw [ex_cons, ih fun t ht => h t (List.mem_cons_of_mem _ ht)]
          cases hl : s.label
          · have hsn : s = nS s.n := by cases s; simp_all [nS]
            simp only [Bool.false_eq_true, if_false]
            rw [I.lo _ (h s List.mem_cons_self hl), ← hsn]
            rfl
          · simp
      exact this _ fun s h => (hs' s h).2
    have K : Inv c (m.put p.head p.body) β ds := by
      refine I.grow G [⟨p.head, p.body⟩] rfl (Int.le_refl _) (fun _ _ => rfl) (fun q hq => ?_) (fun n h1 h2 => ?_) I.hs I.no
      · simp only [List.mem_singleton] at hq
        subst hq
        exact .inl ⟨p, hp, rfl, hb⟩
      · simp only [Mk.put] at h2; omega
    refine ⟨β, K.lo, K.le, K.snd, K.made, K.hs, K.no, fun p' hp' => ?_⟩
    rcases List.mem_cons.1 hp' with rfl | hp'
    · exact ⟨⟨p'.head, p'.body⟩, by simp [Mk.put], rfl, hb⟩
    · exact K.done p' hp'
  · rename_i hf
    have hl1 := form_two (fun h => hf (.inl h)) (fun h => hf (.inr h))
    obtain ⟨β1, h1, I1, h2⟩ := I.syms G hs'
    obtain ⟨G1, g2⟩ := good_syms G fun s h => (hs' s h).1
    obtain ⟨h3, h4⟩ := map_sing h2
    have h0 := syms_len m p.body
    split
    · obtain ⟨β2, h5, I2, h6⟩ := I1.nothing G1
      obtain ⟨G2, _, k3⟩ := good_nothing G1
      have hle := (nothing_gap (m.syms p.body).1).2.1
      refine I2.chain G2 hp (by simp; omega) (fun n hn => ?_) ?_ (.inl (by simp; omega))
      · rcases List.mem_append.1 hn with hn | hn
        · have := (g2 n hn).2; omega
        · simp only [List.mem_singleton] at hn; subst hn; exact k3
      · rw [List.flatMap_append]
        simp only [List.flatMap_cons, List.flatMap_nil, h6, List.append_nil]
        have : ∀ l : List Int, (∀ n ∈ l, n < (m.syms p.body).1.nts) → l.flatMap β2 = l.flatMap β1 := by
          intro l
          induction l with
          | nil => intro _; rfl
          | cons a l ih => intro h; rw [List.flatMap_cons, List.flatMap_cons, ih fun n hn => h n (List.mem_cons_of_mem _ hn), h5 a (h a List.mem_cons_self)]
        rw [this _ fun n hn => (g2 n hn).2]
        exact h3
    · exact I1.chain G1 hp (by omega) (fun n hn => (g2 n hn).2) h3 (.inr h4)
theorem Inv.adds {c : Cnf} (hc : ∀ p ∈ c.prods, (0 ≤ p.head ∧ p.head < c.nts) ∧ ∀ s ∈ p.body, symG c.nts s) : ∀ {l : List Prod} {m r : Mk} {β : Int → List Sym} {ds : List Prod}, Inv c m β ds → GoodM m → (∀ p ∈ l, p ∈ c.prods) → m.adds l = some r →
    ∃ (β' : Int → List Sym) (ds' : List Prod), Inv c r β' ds' ∧ (∀ p ∈ ds, p ∈ ds') ∧ ∀ p ∈ l, p ∈ ds'
  | [], m, r, β, ds, I, G, _, hr => by
    simp only [Mk.adds, Option.some.injEq] at hr
    subst hr
    exact ⟨β, ds, I, fun _ h => h, by simp⟩
  | p :: l, m, r, β, ds, I, G, hl, hr => by
    simp only [Mk.adds] at hr
    split at hr
    · simp at hr
    · have hp := hl p List.mem_cons_self
      have hle := I.le
      obtain ⟨β1, I1⟩ := I.add G hp (hc p hp).2
      have G1 := good_add G (p := p) ⟨(hc p hp).1.1, by have := (hc p hp).1.2; omega⟩ fun s h => symG_mono hle ((hc p hp).2 s h)
      obtain ⟨β2, ds2, I2, h1, h2⟩ := Inv.adds hc I1 G1 (fun q hq => hl q (List.mem_cons_of_mem _ hq)) hr
      refine ⟨β2, ds2, I2, fun q hq => h1 q (List.mem_cons_of_mem _ hq), fun q hq => ?_⟩
      rcases List.mem_cons.1 hq with rfl | hq
      · exact h1 _ List.mem_cons_self
      · exact h2 q hq
theorem Inv.start {c : Cnf} : Inv c (Mk.start c) (fun n => [nS n]) [] :=
  ⟨fun _ _ => rfl, Int.le_refl _, by simp [Mk.start], fun n h1 h2 => by simp only [Mk.start] at h2; omega, by simp [Mk.start, lookA], by simp [Mk.start], by simp⟩
/-- the weak form's words are the old ones -/
theorem ofC_der {c x : Cnf} (h : ofC c = (x, 0)) : c.nts ≤ x.nts ∧ ∀ n, n < c.nts → ∀ k, Der c.prods [nS n] k ↔ Der x.prods [nS n] k := by
  rw [ofC_eq] at h
  split at h
  · rename_i hk
    cases hA : (Mk.start c).adds c.prods with
    | none => rw [hA] at h; simp at h
    | some m =>
      rw [hA] at h
      simp only [_root_.Prod.mk.injEq, and_true] at h
      subst h
      obtain ⟨g1, g2⟩ := cnfOK_iff.1 hk
      obtain ⟨G, _⟩ := adds_good hk hA
      obtain ⟨β, ds, I, _, hd⟩ := Inv.adds g2 Inv.start (good_start hk) (fun _ h => h) hA
      refine ⟨by rw [show (normC m.cnf).nts = m.nts from rfl]; exact I.le, fun n hn k => ?_⟩
      rw [I.same G (fun p hp => (g2 p hp).1.2) hd hn k]
      exact ⟨Der.mono fun p hp => (norm_mem (c := m.cnf) p).2 hp, Der.mono fun p hp => (norm_mem (c := m.cnf) p).1 hp⟩
  · simp at h

/-! shortest words -/
/-- a body's least length, as far as it is known -/
def lenF (out : List Int) : Int → List Sym → Option Int
  | n, [] => some n
  | n, s :: l => if s.label then lenF out (min (n + 1) 65) l else if (out[s.n.toNat]?).getD (-1) = -1 then none else lenF out (min (n + (out[s.n.toNat]?).getD (-1)) 65) l
def SoundW (ps : List Prod) (out : List Int) : Prop := ∀ (n : Nat) (v : Int), out[n]? = some v → v = -1 ∨ ∃ k : Nat, Der ps [nS n] k ∧ v = min (k : Int) 65
def ClosedW (ps : List Prod) (out : List Int) : Prop := ∀ p ∈ ps, ∀ v, lenF out 0 p.body = some v → ∃ u, out[p.head.toNat]? = some u ∧ u ≠ -1 ∧ u ≤ v
theorem lenF_sound {ps : List Prod} {out : List Int} (h : SoundW ps out) : ∀ {l : List Sym} {n v : Int} {j : Nat}, (∀ s ∈ l, s.label = false → 0 ≤ s.n) → lenF out n l = some v → n = min (j : Int) 65 → ∃ k : Nat, Der ps l k ∧ v = min ((j + k : Nat) : Int) 65
  | [], n, v, j, _, hv, hn => by simp only [lenF, Option.some.injEq] at hv; exact ⟨0, .nil, by rw [← hv, hn]; rfl⟩
  | s :: l, n, v, j, hp, hv, hn => by
    simp only [lenF] at hv
    have hp' : ∀ s ∈ l, s.label = false → 0 ≤ s.n := fun t ht => hp t (List.mem_cons_of_mem _ ht)
    split at hv
    · rename_i hl
      obtain ⟨k, h1, h2⟩ := lenF_sound h (j := j + 1) hp' hv (by omega)
      exact ⟨k + 1, .lab s l k hl h1, by rw [h2]; congr 1; omega⟩
    · rename_i hl
      simp only [Bool.not_eq_true] at hl
      split at hv
      · simp at hv
      · rename_i hne
        cases hg : out[s.n.toNat]? with
        | none => rw [hg] at hne; simp at hne
        | some u =>
          rw [hg] at hv hne
          simp only [Option.getD_some] at hv hne
          rcases h _ _ hg with h1 | ⟨k1, h1, h2⟩
          · exact absurd h1 hne
          · have h0 := hp s List.mem_cons_self hl
            obtain ⟨k, h3, h4⟩ := lenF_sound h (j := j + k1) hp' hv (by omega)
            refine ⟨k1 + k, ?_, by rw [h4]; congr 1; omega⟩
            have : s = nS ((s.n.toNat : Nat) : Int) := by
              rw [Int.toNat_of_nonneg h0]
              unfold nS
              rw [← hl]
            rw [this]
            exact Der.app h1 h3
theorem lenF_complete {ps : List Prod} {out : List Int} (h : ClosedW ps out) {l : List Sym} {k : Nat} (hd : Der ps l k) : ∀ n : Int, n ≤ 65 → ∃ v, lenF out n l = some v ∧ v ≤ min (n + k) 65 := by
  induction hd with
  | nil => intro n hn; exact ⟨n, rfl, by omega⟩
  | lab s l k hl _ ih =>
    intro n hn
    obtain ⟨v, h1, h2⟩ := ih (min (n + 1) 65) (by omega)
    exact ⟨v, by simp only [lenF, hl, if_true]; exact h1, by omega⟩
  | nt s l p k1 k2 hl hp hh _ _ ih1 ih2 =>
    intro n hn
    obtain ⟨v1, h1, h2⟩ := ih1 0 (by decide)
    obtain ⟨u, h3, h4, h5⟩ := h p hp v1 h1
    rw [hh] at h3
    obtain ⟨v, h6, h7⟩ := ih2 (min (n + u) 65) (by omega)
    exact ⟨v, by simp only [lenF, hl, h3, Option.getD_some, if_neg h4, Bool.false_eq_true, if_false]; exact h6, by omega⟩
def isMin (ps : List Prod) (n : Int) (v : Int) : Prop := (v = -1 ∧ ∀ k, ¬ Der ps [nS n] k) ∨ (∃ k : Nat, Der ps [nS n] k ∧ v = min (k : Int) 65) ∧ ∀ k : Nat, Der ps [nS n] k → v ≤ min (k : Int) 65
theorem isMin_one {ps : List Prod} {n v u : Int} (h1 : isMin ps n v) (h2 : isMin ps n u) : v = u := by
  rcases h1 with ⟨rfl, h1⟩ | ⟨⟨k, h1, rfl⟩, h3⟩
  · rcases h2 with ⟨rfl, _⟩ | ⟨⟨k, h2, _⟩, _⟩
    · rfl
    · exact absurd h2 (h1 k)
  · rcases h2 with ⟨_, h2⟩ | ⟨⟨j, h2, rfl⟩, h4⟩
    · exact absurd h1 (h2 k)
    · have := h3 j h2
      have := h4 k h1
      omega
theorem isMin_congr {ps qs : List Prod} {n v : Int} (h : ∀ k, Der ps [nS n] k ↔ Der qs [nS n] k) : isMin ps n v ↔ isMin qs n v := by
  unfold isMin
  simp only [h]
open Classical in
noncomputable def theMin (Q : Int → Prop) : Int := if h : ∃ v, Q v then h.choose else 0
theorem theMin_eq {Q : Int → Prop} {v : Int} (h : Q v) (h1 : ∀ v u, Q v → Q u → v = u) : theMin Q = v := by
  unfold theMin
  rw [dif_pos ⟨_, h⟩]
  exact h1 _ _ (Exists.choose_spec (⟨_, h⟩ : ∃ v, Q v)) h
noncomputable def shortC (c : Cnf) : List Int := (List.range c.nts.toNat).map fun n : Nat => theMin (isMin c.prods (n : Int))
theorem shortC_len (c : Cnf) : (shortC c).length = c.nts.toNat := by simp [shortC]
theorem short_of {c : Cnf} (hc : ∀ p ∈ c.prods, (0 ≤ p.head ∧ p.head < c.nts) ∧ ∀ s ∈ p.body, symG c.nts s) {out : List Int} (hl : out.length = c.nts.toNat) (h1 : SoundW c.prods out) (h2 : ClosedW c.prods out) : out = shortC c := by
  refine List.ext_getElem? fun n => ?_
  by_cases hn : n < c.nts.toNat
  · have hm : isMin c.prods (n : Int) (out[n]'(by omega)) := by
      have hg : out[n]? = some (out[n]'(by omega)) := List.getElem?_eq_getElem (by omega)
      have key : ∀ k, Der c.prods [nS n] k → out[n]'(by omega) ≠ -1 ∧ out[n]'(by omega) ≤ min (k : Int) 65 := by
        intro k hd
        obtain ⟨v, g1, g2⟩ := lenF_complete h2 hd 0 (by decide)
        simp only [lenF, nS, Bool.false_eq_true, if_false, Int.toNat_natCast, hg, Option.getD_some] at g1
        split at g1
        · simp at g1
        · rename_i hne
          simp only [Option.some.injEq] at g1
          refine ⟨hne, ?_⟩
          rcases h1 n _ hg with g | ⟨j, _, g⟩ <;> omega
      rcases h1 n _ hg with g | ⟨k, g1, g2⟩
      · exact .inl ⟨g, fun k hd => (key k hd).1 g⟩
      · exact .inr ⟨⟨k, g1, g2⟩, fun j hj => (key j hj).2⟩
    rw [List.getElem?_eq_getElem (by omega), shortC, List.getElem?_map, List.getElem?_range hn]
    simp only [Option.map_some, Option.some.injEq]
    exact (theMin_eq hm fun _ _ => isMin_one).symm
  · rw [List.getElem?_eq_none (by omega), List.getElem?_eq_none (by rw [shortC_len]; omega)]
theorem short_same {c x : Cnf} (h : ofC c = (x, 0)) {n : Nat} (hn : n < c.nts.toNat) : (shortC c)[n]? = (shortC x)[n]? := by
  obtain ⟨h1, h2⟩ := ofC_der h
  have hn2 : n < x.nts.toNat := by omega
  rw [shortC, shortC, List.getElem?_map, List.getElem?_map, List.getElem?_range hn, List.getElem?_range hn2]
  simp only [Option.map_some, Option.some.injEq]
  have e : ∀ v, isMin c.prods (n : Int) v ↔ isMin x.prods (n : Int) v := fun v => isMin_congr (h2 n (by omega))
  exact congrArg theMin (funext fun v => propext (e v))
end Go.Proofs.Ytihkcegelghcpaa
end

section
/- least.length, math/bits.Mul, slices.Repeat -/


set_option linter.unusedSimpArgs false
set_option linter.unusedVariables false
namespace Go.Proofs.Ytihkcegelghcpaa
open Go Go.Dm
attribute [local irreducible] DW callP callS
set_option maxRecDepth 100000

def OutOK (out : List Int) : Prop := ∀ v ∈ out, -1 ≤ v ∧ v ≤ 65
theorem lenF_range {out : List Int} (h : OutOK out) : ∀ {l : List Sym} {n v : Int}, lenF out n l = some v → 0 ≤ n ∧ n ≤ 65 → 0 ≤ v ∧ v ≤ 65
  | [], n, v, hv, hn => by simp only [lenF, Option.some.injEq] at hv; omega
  | s :: l, n, v, hv, hn => by
    simp only [lenF] at hv
    split at hv
    · exact lenF_range h hv (by omega)
    · split at hv
      · simp at hv
      · rename_i hne
        cases hg : out[s.n.toNat]? with
        | none => rw [hg] at hne; simp at hne
        | some u =>
          rw [hg] at hv hne
          simp only [Option.getD_some] at hv hne
          have := h u (List.mem_of_getElem? hg)
          exact lenF_range h hv (by omega)
def lenR : Option Int → DVal
  | some v => .tup [.int .i64 v, .bool true]
  | none => .tup [.int .i64 0, .bool false]

def anW7575 : Ann := ⟨[], [⟨4, [8], [], []⟩]⟩
theorem length_spec (l : List Sym) (out : List Int) (h : OutOK out) (hl : ∀ s ∈ l, s.label = false → 0 ≤ s.n ∧ s.n < out.length) :
    DSpec Try.prog (.func 75) [dSyms l, .osl 0 0] [⟨0, 0, .row 3 1 8 (out.map dInt1)⟩] (lenR (lenF out 0 l)) [⟨0, 0, .row 3 1 8 (out.map dInt1)⟩] := by
  obtain ⟨R, hR0⟩ : ∃ R, R = lenF out 0 l := ⟨_, rfl⟩
  rw [← hR0]
  refine DSpec_intro [] [(0, 0, 0)] (fn := Try.f75) Try.func75 rfl Try.call75 (by simp [Try.ntmps75]) (by simp) (by simp) ?_
  intro hwf B hnt
  simp only [argS]
  (repeat (first
      | (refine DW_seq fun K hK => ?_)
      | (refine DW_r anW7575 Try.mixed (by kernel_rfl) ?_; simp [hnt, Try.ntmps75, Try.results75, anW7575]; try simp (disch := omega) only [wrap64_in])
      | (refine DW_block ?_)
      | (focus (refine DW_if ?_ ?_ ?_; (· (simp [hnt, Try.ntmps75, Try.results75, anW7575]; done)); (try (rotate_left; (· (intro hc; (try simp [hnt, Try.ntmps75, Try.results75, anW7575] at hc); done))))))
      | (refine DW_ret ?_; simp [hnt, Try.ntmps75, Try.results75, anW7575])
      | (refine DW_exit ?_; simp [hnt, Try.ntmps75, Try.results75, anW7575])
      | (refine DW_skip ?_; simp [hnt, Try.ntmps75, Try.results75, anW7575])
      | (intro hc; (try simp [hnt, Try.ntmps75, Try.results75, anW7575] at hc); done)
      | (intro hc; (try simp [hnt, Try.ntmps75, Try.results75, anW7575] at hc); (first | (exfalso; omega) | skip))
      | (refine ⟨?_, ?_⟩; · omega)
      | omega
      | apply_assumption -exfalso -symm
      | (exfalso; omega)))
  refine DW_loop (X := {x : Nat × Int // x.1 ≤ l.length ∧ lenF out x.2 (l.drop x.1) = R ∧ 0 ≤ x.2 ∧ x.2 ≤ 65})
    (fun x => ⟨[(1, .osl 0 0), (6, .int .i64 x.1.2), (9, dSyms l), (10, .int .i64 l.length), (11, .int .i64 x.1.1)], [⟨0, 0, .row 3 1 8 (out.map dInt1)⟩]⟩) (fun x => l.length - x.1.1) ⟨(0, 0), by simp [hR0]⟩ (Sub.lit (by simp)) ?_
  rintro ⟨⟨k, n⟩, hk, hR, b1, b2⟩
  simp only at hk hR b1 b2 ⊢
  have hk1 : k < l.length → IntKind.i64.wrap ((k : Int) + 1) = (k : Int) + 1 := fun _ => wrap64_in (by omega) (by have := hwf; simp [maxLen] at this; omega)
  by_cases hlt : k < l.length
  · have hk1 := hk1 hlt
    obtain ⟨s, hs, hs', hsm⟩ := at_lt' hlt
    rw [List.drop_eq_getElem_cons hlt, hs'] at hR
    cases hb : s.label
    · simp only [lenF, hb, Bool.false_eq_true, if_false] at hR
      obtain ⟨q1, q2⟩ := hl s hsm hb
      obtain ⟨u, hu, hu', hum⟩ := at_lt' (show s.n.toNat < out.length by omega)
      have hu3 := h u hum
      rw [hu] at hR
      simp only [Option.getD_some] at hR
      by_cases hun : u = -1
      · rw [if_pos hun] at hR
        subst hun
        clear hR0
        subst hR
        (repeat (first
            | (refine DW_seq fun K hK => ?_)
            | (refine DW_r anW7575 Try.mixed (by kernel_rfl) ?_; simp [hnt, Try.ntmps75, Try.results75, anW7575, dSym, hlt, hs, hs', hb, q1, q2, hu, hu', dInt1, lenR]; try simp (disch := omega) only [wrap64_in])
            | (refine DW_block ?_)
            | (focus (refine DW_if ?_ ?_ ?_; (· (simp [hnt, Try.ntmps75, Try.results75, anW7575, dSym, hlt, hs, hs', hb, q1, q2, hu, hu', dInt1, lenR]; done)); (try (rotate_left; (· (intro hc; (try simp [hnt, Try.ntmps75, Try.results75, anW7575, dSym, hlt, hs, hs', hb, q1, q2, hu, hu', dInt1, lenR] at hc); done))))))
            | (refine DW_ret ?_; simp [hnt, Try.ntmps75, Try.results75, anW7575, dSym, hlt, hs, hs', hb, q1, q2, hu, hu', dInt1, lenR])
            | (refine DW_exit ?_; simp [hnt, Try.ntmps75, Try.results75, anW7575, dSym, hlt, hs, hs', hb, q1, q2, hu, hu', dInt1, lenR])
            | (refine DW_skip ?_; simp [hnt, Try.ntmps75, Try.results75, anW7575, dSym, hlt, hs, hs', hb, q1, q2, hu, hu', dInt1, lenR])
            | (intro hc; (try simp [hnt, Try.ntmps75, Try.results75, anW7575, dSym, hlt, hs, hs', hb, q1, q2, hu, hu', dInt1, lenR] at hc); done)
            | (intro hc; (try simp [hnt, Try.ntmps75, Try.results75, anW7575, dSym, hlt, hs, hs', hb, q1, q2, hu, hu', dInt1, lenR] at hc); (first | (exfalso; omega) | skip))
            | (refine ⟨?_, ?_⟩; · omega)
            | omega
            | apply_assumption -exfalso -symm
            | (exfalso; omega)))
      · rw [if_neg hun] at hR
        have hw : IntKind.i64.wrap (n + u) = n + u := wrap64_in (by omega) (by omega)
        (repeat (first
            | (refine DW_seq fun K hK => ?_)
            | (refine DW_r anW7575 Try.mixed (by kernel_rfl) ?_; simp [hnt, Try.ntmps75, Try.results75, anW7575, dSym, hlt, hs, hs', hb, q1, q2, hu, hu', dInt1, hun, hw]; try simp (disch := omega) only [wrap64_in])
            | (refine DW_block ?_)
            | (focus (refine DW_if ?_ ?_ ?_; (· (simp [hnt, Try.ntmps75, Try.results75, anW7575, dSym, hlt, hs, hs', hb, q1, q2, hu, hu', dInt1, hun, hw]; done)); (try (rotate_left; (· (intro hc; (try simp [hnt, Try.ntmps75, Try.results75, anW7575, dSym, hlt, hs, hs', hb, q1, q2, hu, hu', dInt1, hun, hw] at hc); done))))))
            | (refine DW_ret ?_; simp [hnt, Try.ntmps75, Try.results75, anW7575, dSym, hlt, hs, hs', hb, q1, q2, hu, hu', dInt1, hun, hw])
            | (refine DW_exit ?_; simp [hnt, Try.ntmps75, Try.results75, anW7575, dSym, hlt, hs, hs', hb, q1, q2, hu, hu', dInt1, hun, hw])
            | (refine DW_skip ?_; simp [hnt, Try.ntmps75, Try.results75, anW7575, dSym, hlt, hs, hs', hb, q1, q2, hu, hu', dInt1, hun, hw])
            | (intro hc; (try simp [hnt, Try.ntmps75, Try.results75, anW7575, dSym, hlt, hs, hs', hb, q1, q2, hu, hu', dInt1, hun, hw] at hc); done)
            | (intro hc; (try simp [hnt, Try.ntmps75, Try.results75, anW7575, dSym, hlt, hs, hs', hb, q1, q2, hu, hu', dInt1, hun, hw] at hc); (first | (exfalso; omega) | skip))
            | (refine ⟨?_, ?_⟩; · omega)
            | omega
            | apply_assumption -exfalso -symm
            | (exfalso; omega)))
        refine Again.mk ⟨(k + 1, min (n + u) 65), show k + 1 ≤ l.length ∧ lenF out (min (n + u) 65) (l.drop (k + 1)) = R ∧ 0 ≤ min (n + u) 65 ∧ min (n + u) 65 ≤ 65 from ⟨by omega, hR, by omega, by omega⟩⟩ (Sub.lit (by simp [hw, hk1, Int.min_def]; (try split) <;> (try split) <;> simp_all <;> omega)) (by simp; omega)
        (repeat (first
            | (refine DW_seq fun K hK => ?_)
            | (refine DW_r anW7575 Try.mixed (by kernel_rfl) ?_; simp [hnt, Try.ntmps75, Try.results75, anW7575]; try simp (disch := omega) only [wrap64_in])
            | (refine DW_block ?_)
            | (focus (refine DW_if ?_ ?_ ?_; (· (simp [hnt, Try.ntmps75, Try.results75, anW7575]; done)); (try (rotate_left; (· (intro hc; (try simp [hnt, Try.ntmps75, Try.results75, anW7575] at hc); done))))))
            | (refine DW_ret ?_; simp [hnt, Try.ntmps75, Try.results75, anW7575])
            | (refine DW_exit ?_; simp [hnt, Try.ntmps75, Try.results75, anW7575])
            | (refine DW_skip ?_; simp [hnt, Try.ntmps75, Try.results75, anW7575])
            | (intro hc; (try simp [hnt, Try.ntmps75, Try.results75, anW7575] at hc); done)
            | (intro hc; (try simp [hnt, Try.ntmps75, Try.results75, anW7575] at hc); (first | (exfalso; omega) | skip))
            | (refine ⟨?_, ?_⟩; · omega)
            | omega
            | apply_assumption -exfalso -symm
            | (exfalso; omega)))
    · simp only [lenF, hb, if_true] at hR
      have hw : IntKind.i64.wrap (n + 1) = n + 1 := wrap64_in (by omega) (by omega)
      (repeat (first
          | (refine DW_seq fun K hK => ?_)
          | (refine DW_r anW7575 Try.mixed (by kernel_rfl) ?_; simp [hnt, Try.ntmps75, Try.results75, anW7575, dSym, hlt, hs, hs', hb, hw]; try simp (disch := omega) only [wrap64_in])
          | (refine DW_block ?_)
          | (focus (refine DW_if ?_ ?_ ?_; (· (simp [hnt, Try.ntmps75, Try.results75, anW7575, dSym, hlt, hs, hs', hb, hw]; done)); (try (rotate_left; (· (intro hc; (try simp [hnt, Try.ntmps75, Try.results75, anW7575, dSym, hlt, hs, hs', hb, hw] at hc); done))))))
          | (refine DW_ret ?_; simp [hnt, Try.ntmps75, Try.results75, anW7575, dSym, hlt, hs, hs', hb, hw])
          | (refine DW_exit ?_; simp [hnt, Try.ntmps75, Try.results75, anW7575, dSym, hlt, hs, hs', hb, hw])
          | (refine DW_skip ?_; simp [hnt, Try.ntmps75, Try.results75, anW7575, dSym, hlt, hs, hs', hb, hw])
          | (intro hc; (try simp [hnt, Try.ntmps75, Try.results75, anW7575, dSym, hlt, hs, hs', hb, hw] at hc); done)
          | (intro hc; (try simp [hnt, Try.ntmps75, Try.results75, anW7575, dSym, hlt, hs, hs', hb, hw] at hc); (first | (exfalso; omega) | skip))
          | (refine ⟨?_, ?_⟩; · omega)
          | omega
          | apply_assumption -exfalso -symm
          | (exfalso; omega)))
      refine Again.mk ⟨(k + 1, min (n + 1) 65), show k + 1 ≤ l.length ∧ lenF out (min (n + 1) 65) (l.drop (k + 1)) = R ∧ 0 ≤ min (n + 1) 65 ∧ min (n + 1) 65 ≤ 65 from ⟨by omega, hR, by omega, by omega⟩⟩ (Sub.lit (by simp [hw, hk1, Int.min_def]; (try split) <;> (try split) <;> simp_all <;> omega)) (by simp; omega)
      (repeat (first
          | (refine DW_seq fun K hK => ?_)
          | (refine DW_r anW7575 Try.mixed (by kernel_rfl) ?_; simp [hnt, Try.ntmps75, Try.results75, anW7575]; try simp (disch := omega) only [wrap64_in])
          | (refine DW_block ?_)
          | (focus (refine DW_if ?_ ?_ ?_; (· (simp [hnt, Try.ntmps75, Try.results75, anW7575]; done)); (try (rotate_left; (· (intro hc; (try simp [hnt, Try.ntmps75, Try.results75, anW7575] at hc); done))))))
          | (refine DW_ret ?_; simp [hnt, Try.ntmps75, Try.results75, anW7575])
          | (refine DW_exit ?_; simp [hnt, Try.ntmps75, Try.results75, anW7575])
          | (refine DW_skip ?_; simp [hnt, Try.ntmps75, Try.results75, anW7575])
          | (intro hc; (try simp [hnt, Try.ntmps75, Try.results75, anW7575] at hc); done)
          | (intro hc; (try simp [hnt, Try.ntmps75, Try.results75, anW7575] at hc); (first | (exfalso; omega) | skip))
          | (refine ⟨?_, ?_⟩; · omega)
          | omega
          | apply_assumption -exfalso -symm
          | (exfalso; omega)))
  · have hkk : k = l.length := by omega
    subst hkk
    rw [List.drop_length] at hR
    simp only [lenF] at hR
    clear hR0
    subst hR
    (repeat (first
        | (refine DW_seq fun K hK => ?_)
        | (refine DW_r anW7575 Try.mixed (by kernel_rfl) ?_; simp [hnt, Try.ntmps75, Try.results75, anW7575, lenR]; try simp (disch := omega) only [wrap64_in])
        | (refine DW_block ?_)
        | (focus (refine DW_if ?_ ?_ ?_; (· (simp [hnt, Try.ntmps75, Try.results75, anW7575, lenR]; done)); (try (rotate_left; (· (intro hc; (try simp [hnt, Try.ntmps75, Try.results75, anW7575, lenR] at hc); done))))))
        | (refine DW_ret ?_; simp [hnt, Try.ntmps75, Try.results75, anW7575, lenR])
        | (refine DW_exit ?_; simp [hnt, Try.ntmps75, Try.results75, anW7575, lenR])
        | (refine DW_skip ?_; simp [hnt, Try.ntmps75, Try.results75, anW7575, lenR])
        | (intro hc; (try simp [hnt, Try.ntmps75, Try.results75, anW7575, lenR] at hc); done)
        | (intro hc; (try simp [hnt, Try.ntmps75, Try.results75, anW7575, lenR] at hc); (first | (exfalso; omega) | skip))
        | (refine ⟨?_, ?_⟩; · omega)
        | omega
        | apply_assumption -exfalso -symm
        | (exfalso; omega)))
end Go.Proofs.Ytihkcegelghcpaa
end

section
/- least.Shortest's closure -/

set_option linter.unusedSimpArgs false
set_option linter.unusedVariables false
namespace Go.Proofs.Ytihkcegelghcpaa
open Go Go.Dm
attribute [local irreducible] DW callP callS
set_option maxRecDepth 100000

def stepF (out : List Int) (p : Prod) : Option Int := match lenF out 0 p.body with
  | none => none
  | some n => if (out[p.head.toNat]?).getD 0 ≠ -1 ∧ (out[p.head.toNat]?).getD 0 ≤ n then none else some n
def stepO (out : List Int) (p : Prod) : List Int := match stepF out p with
  | none => out
  | some n => out.set p.head.toNat n
def mu : List Int → Nat
  | [] => 0
  | v :: l => (if v = -1 then 66 else v.toNat) + mu l
theorem mu_set : ∀ {l : List Int} {i : Nat} {v n : Int}, l[i]? = some v → (v = -1 ∨ n < v) → 0 ≤ n → n ≤ 65 → mu (l.set i n) < mu l
  | [], i, v, n, h, _, _, _ => by simp at h
  | a :: l, 0, v, n, h, h1, h2, h3 => by
    simp only [List.getElem?_cons_zero, Option.some.injEq] at h
    subst h
    simp only [List.set_cons_zero, mu]
    rw [if_neg (show ¬ n = -1 by omega)]
    split <;> omega
  | a :: l, i + 1, v, n, h, h1, h2, h3 => by
    simp only [List.getElem?_cons_succ] at h
    have := mu_set h h1 h2 h3
    simp only [List.set_cons_succ, mu]
    omega
theorem step_mu {out : List Int} {p : Prod} {n : Int} (h : OutOK out) (hh : 0 ≤ p.head ∧ p.head < out.length) (hs : stepF out p = some n) : mu (stepO out p) < mu out ∧ 0 ≤ n ∧ n ≤ 65 := by
  unfold stepO
  rw [hs]
  unfold stepF at hs
  cases hL : lenF out 0 p.body with
  | none => rw [hL] at hs; simp at hs
  | some m =>
    rw [hL] at hs
    simp only at hs
    have hm := lenF_range h hL (by decide)
    obtain ⟨v, hv, hv', hvm⟩ := at_lt' (show p.head.toNat < out.length by omega)
    rw [hv] at hs
    simp only [Option.getD_some] at hs
    split at hs
    · simp at hs
    · simp only [Option.some.injEq] at hs
      subst hs
      exact ⟨mu_set hv (by omega) hm.1 hm.2, hm⟩
theorem stepO_len (out : List Int) (p : Prod) : (stepO out p).length = out.length := by
  unfold stepO; split <;> simp
theorem stepO_ok {out : List Int} {p : Prod} (h : OutOK out) (hh : 0 ≤ p.head ∧ p.head < out.length) : OutOK (stepO out p) := by
  cases hs : stepF out p with
  | none => unfold stepO; rw [hs]; exact h
  | some n =>
    have := (step_mu h hh hs).2
    unfold stepO
    rw [hs]
    intro v hv
    rcases List.mem_or_eq_of_mem_set hv with hv | rfl
    · exact h v hv
    · omega
theorem stepO_sound {ps : List Prod} {out : List Int} {p : Prod} (h : SoundW ps out) (hp : p ∈ ps) (hh : 0 ≤ p.head) (hl : ∀ s ∈ p.body, s.label = false → 0 ≤ s.n) : SoundW ps (stepO out p) := by
  cases hs : stepF out p with
  | none => unfold stepO; rw [hs]; exact h
  | some n =>
    unfold stepO
    rw [hs]
    intro i v hv
    simp only [List.getElem?_set] at hv
    split at hv
    · rename_i hi
      split at hv
      · simp only [Option.some.injEq] at hv
        subst hv
        unfold stepF at hs
        cases hL : lenF out 0 p.body with
        | none => rw [hL] at hs; simp at hs
        | some m =>
          rw [hL] at hs
          simp only at hs
          split at hs
          · simp at hs
          · simp only [Option.some.injEq] at hs
            subst hs
            obtain ⟨k, h1, h2⟩ := lenF_sound h (j := 0) hl hL (by decide)
            refine .inr ⟨k, ?_, by simpa using h2⟩
            have := Der.one hp h1
            rw [show (i : Int) = p.head by omega]
            exact this
      · simp at hv
    · exact h i v hv
theorem closed_of {ps : List Prod} {out : List Int} (h : ∀ p ∈ ps, stepF out p = none) (hh : ∀ p ∈ ps, 0 ≤ p.head ∧ p.head < out.length) : ClosedW ps out := by
  intro p hp v hv
  have h1 := h p hp
  have h2 := hh p hp
  unfold stepF at h1
  rw [hv] at h1
  simp only at h1
  obtain ⟨u, hu, hu', hum⟩ := at_lt' (show p.head.toNat < out.length by omega)
  rw [hu] at h1
  simp only [Option.getD_some] at h1
  split at h1
  · rename_i h3
    exact ⟨u, hu, h3.1, h3.2⟩
  · simp at h1

def anW7474 : Ann := ⟨[10], []⟩
set_option maxHeartbeats 1000000 in
theorem short1_spec (p : Prod) (out : List Int) (h : OutOK out) (hh : 0 ≤ p.head ∧ p.head < out.length) (hl : ∀ s ∈ p.body, s.label = false → 0 ≤ s.n ∧ s.n < out.length) :
    DSpec Try.prog (.func 74) [.agg (dProd p), .bx 0 0 0] [⟨0, 0, .box [.osl 1 0]⟩, ⟨1, 0, .row 3 1 8 (out.map dInt1)⟩] (.bool (stepF out p).isSome)
      [⟨0, 0, .box [.osl 1 0]⟩, ⟨1, 0, .row 3 1 8 ((stepO out p).map dInt1)⟩] := by
  refine DSpec_intro [] [(0, 0, 0), (1, 1, 0)] (fn := Try.f74) Try.func74 rfl Try.call74 (by simp [Try.ntmps74]) (by simp) (by simp) ?_
  intro hwf B hnt
  simp only [argS]
  obtain ⟨hd, l⟩ := p
  simp only at hh hl
  have e1 := length_spec l out h hl
  obtain ⟨v, hv, hv', hvm⟩ := at_lt' (show hd.toNat < out.length by omega)
  obtain ⟨q1, q2⟩ := hh
  have hset : ∀ x : Int, (out.map dInt1).set hd.toNat [.int .i64 x] = (out.set hd.toNat x).map dInt1 := fun x => by rw [List.map_set]; rfl
  have hmx : ∀ x : Int, mxR ((out.map dInt1).set hd.toNat [.int .i64 x]) = 0 := fun x => by rw [hset]; exact mx_ints _
  unfold stepO
  cases hL : lenF out 0 l with
  | none =>
    have hS : stepF out ⟨hd, l⟩ = none := by unfold stepF; simp only [hL]
    rw [hL] at e1
    simp only [lenR] at e1
    rw [hS]
    (repeat (first
        | (refine DW_seq fun K hK => ?_)
        | (refine DW_r anW7474 Try.mixed (by kernel_rfl) ?_; simp [hnt, Try.ntmps74, Try.results74, anW7474, dProd, hv, hv', q1, q2, dInt1]; try simp (disch := omega) only [wrap64_in])
        | (refine DW_block ?_)
        | (focus (refine DW_if ?_ ?_ ?_; (· (simp [hnt, Try.ntmps74, Try.results74, anW7474, dProd, hv, hv', q1, q2, dInt1]; done)); (try (rotate_left; (· (intro hc; (try simp [hnt, Try.ntmps74, Try.results74, anW7474, dProd, hv, hv', q1, q2, dInt1] at hc); done))))))
        | (refine DW_ret ?_; simp [hnt, Try.ntmps74, Try.results74, anW7474, dProd, hv, hv', q1, q2, dInt1])
        | (refine DW_exit ?_; simp [hnt, Try.ntmps74, Try.results74, anW7474, dProd, hv, hv', q1, q2, dInt1])
        | (refine DW_skip ?_; simp [hnt, Try.ntmps74, Try.results74, anW7474, dProd, hv, hv', q1, q2, dInt1])
        | (intro hc; (try simp [hnt, Try.ntmps74, Try.results74, anW7474, dProd, hv, hv', q1, q2, dInt1] at hc); done)
        | (intro hc; (try simp [hnt, Try.ntmps74, Try.results74, anW7474, dProd, hv, hv', q1, q2, dInt1] at hc); (first | (exfalso; omega) | skip))
        | (refine callS_mk [(1,0)] [] (e1) ?_ ?_; (· (simp [hnt, Try.ntmps74, Try.results74, anW7474, dProd, hv, hv', q1, q2, dInt1]; done)); (intro _; try simp [hnt, Try.ntmps74, Try.results74, anW7474, dProd, hv, hv', q1, q2, dInt1]))
        | (refine ⟨?_, ?_⟩; · omega)
        | omega
        | apply_assumption -exfalso -symm
        | (exfalso; omega)))
  | some n =>
    rw [hL] at e1
    simp only [lenR] at e1
    by_cases hv1 : v = -1
    · have hS : stepF out ⟨hd, l⟩ = some n := by unfold stepF; simp only [hL, hv, Option.getD_some]; rw [if_neg (by simp [hv1])]
      rw [hS]
      subst hv1
      (repeat (first
          | (refine DW_seq fun K hK => ?_)
          | (refine DW_r anW7474 Try.mixed (by kernel_rfl) ?_; simp [hnt, Try.ntmps74, Try.results74, anW7474, dProd, hv, hv', q1, q2, dInt1, hmx]; try simp (disch := omega) only [wrap64_in])
          | (refine DW_block ?_)
          | (focus (refine DW_if ?_ ?_ ?_; (· (simp [hnt, Try.ntmps74, Try.results74, anW7474, dProd, hv, hv', q1, q2, dInt1, hmx]; done)); (try (rotate_left; (· (intro hc; (try simp [hnt, Try.ntmps74, Try.results74, anW7474, dProd, hv, hv', q1, q2, dInt1, hmx] at hc); done))))))
          | (refine DW_ret ?_; simp [hnt, Try.ntmps74, Try.results74, anW7474, dProd, hv, hv', q1, q2, dInt1, hmx])
          | (refine DW_exit ?_; simp [hnt, Try.ntmps74, Try.results74, anW7474, dProd, hv, hv', q1, q2, dInt1, hmx])
          | (refine DW_skip ?_; simp [hnt, Try.ntmps74, Try.results74, anW7474, dProd, hv, hv', q1, q2, dInt1, hmx])
          | (intro hc; (try simp [hnt, Try.ntmps74, Try.results74, anW7474, dProd, hv, hv', q1, q2, dInt1, hmx] at hc); done)
          | (intro hc; (try simp [hnt, Try.ntmps74, Try.results74, anW7474, dProd, hv, hv', q1, q2, dInt1, hmx] at hc); (first | (exfalso; omega) | skip))
          | (refine callS_mk [(1,0)] [] (e1) ?_ ?_; (· (simp [hnt, Try.ntmps74, Try.results74, anW7474, dProd, hv, hv', q1, q2, dInt1, hmx]; done)); (intro _; try simp [hnt, Try.ntmps74, Try.results74, anW7474, dProd, hv, hv', q1, q2, dInt1, hmx]))
          | (refine ⟨?_, ?_⟩; · omega)
          | omega
          | apply_assumption -exfalso -symm
          | (exfalso; omega)))
    · by_cases hv2 : v ≤ n
      · have hS : stepF out ⟨hd, l⟩ = none := by unfold stepF; simp only [hL, hv, Option.getD_some]; rw [if_pos ⟨hv1, hv2⟩]
        rw [hS]
        (repeat (first
            | (refine DW_seq fun K hK => ?_)
            | (refine DW_r anW7474 Try.mixed (by kernel_rfl) ?_; simp [hnt, Try.ntmps74, Try.results74, anW7474, dProd, hv, hv', q1, q2, dInt1, hv1, hv2]; try simp (disch := omega) only [wrap64_in])
            | (refine DW_block ?_)
            | (focus (refine DW_if ?_ ?_ ?_; (· (simp [hnt, Try.ntmps74, Try.results74, anW7474, dProd, hv, hv', q1, q2, dInt1, hv1, hv2]; done)); (try (rotate_left; (· (intro hc; (try simp [hnt, Try.ntmps74, Try.results74, anW7474, dProd, hv, hv', q1, q2, dInt1, hv1, hv2] at hc); done))))))
            | (refine DW_ret ?_; simp [hnt, Try.ntmps74, Try.results74, anW7474, dProd, hv, hv', q1, q2, dInt1, hv1, hv2])
            | (refine DW_exit ?_; simp [hnt, Try.ntmps74, Try.results74, anW7474, dProd, hv, hv', q1, q2, dInt1, hv1, hv2])
            | (refine DW_skip ?_; simp [hnt, Try.ntmps74, Try.results74, anW7474, dProd, hv, hv', q1, q2, dInt1, hv1, hv2])
            | (intro hc; (try simp [hnt, Try.ntmps74, Try.results74, anW7474, dProd, hv, hv', q1, q2, dInt1, hv1, hv2] at hc); done)
            | (intro hc; (try simp [hnt, Try.ntmps74, Try.results74, anW7474, dProd, hv, hv', q1, q2, dInt1, hv1, hv2] at hc); (first | (exfalso; omega) | skip))
            | (refine callS_mk [(1,0)] [] (e1) ?_ ?_; (· (simp [hnt, Try.ntmps74, Try.results74, anW7474, dProd, hv, hv', q1, q2, dInt1, hv1, hv2]; done)); (intro _; try simp [hnt, Try.ntmps74, Try.results74, anW7474, dProd, hv, hv', q1, q2, dInt1, hv1, hv2]))
            | (refine ⟨?_, ?_⟩; · omega)
            | omega
            | apply_assumption -exfalso -symm
            | (exfalso; omega)))
      · have hS : stepF out ⟨hd, l⟩ = some n := by unfold stepF; simp only [hL, hv, Option.getD_some]; rw [if_neg (by simp [hv2])]
        rw [hS]
        (repeat (first
            | (refine DW_seq fun K hK => ?_)
            | (refine DW_r anW7474 Try.mixed (by kernel_rfl) ?_; simp [hnt, Try.ntmps74, Try.results74, anW7474, dProd, hv, hv', q1, q2, dInt1, hv1, hv2, hmx]; try simp (disch := omega) only [wrap64_in])
            | (refine DW_block ?_)
            | (focus (refine DW_if ?_ ?_ ?_; (· (simp [hnt, Try.ntmps74, Try.results74, anW7474, dProd, hv, hv', q1, q2, dInt1, hv1, hv2, hmx]; done)); (try (rotate_left; (· (intro hc; (try simp [hnt, Try.ntmps74, Try.results74, anW7474, dProd, hv, hv', q1, q2, dInt1, hv1, hv2, hmx] at hc); done))))))
            | (refine DW_ret ?_; simp [hnt, Try.ntmps74, Try.results74, anW7474, dProd, hv, hv', q1, q2, dInt1, hv1, hv2, hmx])
            | (refine DW_exit ?_; simp [hnt, Try.ntmps74, Try.results74, anW7474, dProd, hv, hv', q1, q2, dInt1, hv1, hv2, hmx])
            | (refine DW_skip ?_; simp [hnt, Try.ntmps74, Try.results74, anW7474, dProd, hv, hv', q1, q2, dInt1, hv1, hv2, hmx])
            | (intro hc; (try simp [hnt, Try.ntmps74, Try.results74, anW7474, dProd, hv, hv', q1, q2, dInt1, hv1, hv2, hmx] at hc); done)
            | (intro hc; (try simp [hnt, Try.ntmps74, Try.results74, anW7474, dProd, hv, hv', q1, q2, dInt1, hv1, hv2, hmx] at hc); (first | (exfalso; omega) | skip))
            | (refine callS_mk [(1,0)] [] (e1) ?_ ?_; (· (simp [hnt, Try.ntmps74, Try.results74, anW7474, dProd, hv, hv', q1, q2, dInt1, hv1, hv2, hmx]; done)); (intro _; try simp [hnt, Try.ntmps74, Try.results74, anW7474, dProd, hv, hv', q1, q2, dInt1, hv1, hv2, hmx]))
            | (refine ⟨?_, ?_⟩; · omega)
            | omega
            | apply_assumption -exfalso -symm
            | (exfalso; omega)))
end Go.Proofs.Ytihkcegelghcpaa
end

section
/- math/bits.Mul, slices.Repeat -/

set_option linter.unusedSimpArgs false
set_option linter.unusedVariables false
namespace Go.Proofs.Ytihkcegelghcpaa
open Go Go.Dm
attribute [local irreducible] DW callP callS
set_option maxRecDepth 100000

def anW72150 : Ann := ⟨[], []⟩
theorem mul64_pure (n : Nat) (h : n ≤ 1024) : DPure Try.prog 150 [.int .u64 1, .int .u64 n] (.tup [.int .u64 0, .int .u64 n]) := by
  refine DPure_introF [] (fn := Try.f150) Try.func150 rfl Try.call150 (by simp [Try.ntmps150]) (by simp [mx]) ?_
  intro hwf B hnt
  simp only [argS]
  have h1 := iAnd_mask32 n (by omega)
  have h2 : iAnd .u64 1 4294967295 = 1 := by decide
  have h3 : iShr .u64 n 32 = 0 := iShr_small (k := .u64) n 32 (by omega) (by decide)
  have h6 : iShr .u64 1 32 = 0 := by decide
  have h7 : iShr .u64 0 32 = 0 := by decide
  have h8 : iAnd .u64 0 4294967295 = 0 := by decide
  have h4 : IntKind.u64.wrap (n : Int) = n := wrapU64_in (by omega) (by omega)
  (repeat (first
      | (refine DW_seq fun K hK => ?_)
      | (refine DW_r anW72150 Try.mixed (by kernel_rfl) ?_; simp [hnt, Try.ntmps150, Try.results150, anW72150, h1, h2, h3, h4, h6, h7, h8]; try simp (disch := omega) only [wrap64_in])
      | (refine DW_block ?_)
      | (focus (refine DW_if ?_ ?_ ?_; (· (simp [hnt, Try.ntmps150, Try.results150, anW72150, h1, h2, h3, h4, h6, h7, h8]; done)); (try (rotate_left; (· (intro hc; (try simp [hnt, Try.ntmps150, Try.results150, anW72150, h1, h2, h3, h4, h6, h7, h8] at hc); done))))))
      | (refine DW_ret ?_; simp [hnt, Try.ntmps150, Try.results150, anW72150, h1, h2, h3, h4, h6, h7, h8])
      | (refine DW_exit ?_; simp [hnt, Try.ntmps150, Try.results150, anW72150, h1, h2, h3, h4, h6, h7, h8])
      | (refine DW_skip ?_; simp [hnt, Try.ntmps150, Try.results150, anW72150, h1, h2, h3, h4, h6, h7, h8])
      | (intro hc; (try simp [hnt, Try.ntmps150, Try.results150, anW72150, h1, h2, h3, h4, h6, h7, h8] at hc); done)
      | (intro hc; (try simp [hnt, Try.ntmps150, Try.results150, anW72150, h1, h2, h3, h4, h6, h7, h8] at hc); (first | (exfalso; omega) | skip))
      | (refine ⟨?_, ?_⟩; · omega)
      | omega
      | apply_assumption -exfalso -symm
      | (exfalso; omega)))
def anW72111 : Ann := ⟨[], []⟩
theorem mul_pure (n : Nat) (h : n ≤ 1024) : DPure Try.prog 111 [.int .u64 1, .int .u64 n] (.tup [.int .u64 0, .int .u64 n]) := by
  refine DPure_introF [] (fn := Try.f111) Try.func111 rfl Try.call111 (by simp [Try.ntmps111]) (by simp [mx]) ?_
  intro hwf B hnt
  simp only [argS]
  (repeat (first
      | (refine DW_seq fun K hK => ?_)
      | (refine DW_r anW72111 Try.mixed (by kernel_rfl) ?_; simp [hnt, Try.ntmps111, Try.results111, anW72111]; try simp (disch := omega) only [wrap64_in])
      | (refine DW_block ?_)
      | (focus (refine DW_if ?_ ?_ ?_; (· (simp [hnt, Try.ntmps111, Try.results111, anW72111]; done)); (try (rotate_left; (· (intro hc; (try simp [hnt, Try.ntmps111, Try.results111, anW72111] at hc); done))))))
      | (refine DW_ret ?_; simp [hnt, Try.ntmps111, Try.results111, anW72111])
      | (refine DW_exit ?_; simp [hnt, Try.ntmps111, Try.results111, anW72111])
      | (refine DW_skip ?_; simp [hnt, Try.ntmps111, Try.results111, anW72111])
      | (intro hc; (try simp [hnt, Try.ntmps111, Try.results111, anW72111] at hc); done)
      | (intro hc; (try simp [hnt, Try.ntmps111, Try.results111, anW72111] at hc); (first | (exfalso; omega) | skip))
      | (refine callP_mk (mul64_pure n h) ?_; try simp [hnt, Try.ntmps111, Try.results111, anW72111])
      | (refine callP_wk (mul64_pure n h) ?_ ?_; (· (simp; done)); try simp [hnt, Try.ntmps111, Try.results111, anW72111])
      | (refine ⟨?_, ?_⟩; · omega)
      | omega
      | apply_assumption -exfalso -symm
      | (exfalso; omega)))

@[simp] theorem mx_rep1 (n : Nat) (z : Int) : mxR (List.replicate n (dInt1 z)) = 0 := by
  induction n with
  | zero => rfl
  | succ n ih => rw [List.replicate_succ]; simp only [mxR, ih]; simp [dInt1, mxL, mx]
@[simp] theorem mx_rep2 (n : Nat) (z : Int) : mxR (List.replicate n [DVal.int .i64 z]) = 0 := mx_rep1 n z
theorem copy_one {n : Nat} (h : 1 ≤ n) (A Z : List DVal) : copyD (List.replicate n Z) 0 n [A] = A :: List.replicate (n - 1) Z := by
  unfold copyD
  simp only [List.take_zero, List.nil_append, List.length_cons, List.length_nil, Nat.zero_add, List.drop_replicate]
  rw [List.take_of_length_le (by simp; omega), Nat.min_eq_left h]
  rfl
theorem copy_rep {n k : Nat} (h1 : k ≤ n) (A Z : List DVal) : copyD (List.replicate k A ++ List.replicate (n - k) Z) k (n - k) (List.replicate k A) = List.replicate (k + min k (n - k)) A ++ List.replicate (n - (k + min k (n - k))) Z := by
  unfold copyD
  rw [List.take_append_of_le_length (by simp), List.take_of_length_le (by simp), List.take_replicate, List.drop_append, List.drop_of_length_le (by simp)]
  simp only [List.length_replicate, List.nil_append, List.drop_replicate]
  rw [← List.replicate_append_replicate, Nat.min_comm k (n - k)]
  congr 2
  omega
def anW7272 : Ann := ⟨[], [⟨9, [], [], [0]⟩]⟩
theorem repeat_spec (n : Nat) (h0 : 1 ≤ n) (h1 : n ≤ 1024) :
    DSpec Try.prog (.func 72) [.sl 1 8 [[.int .i64 (-1)]], .int .i64 n] [] (.osl 0 1) [⟨0, 1, .row 3 1 8 ((List.replicate n (-1)).map dInt1)⟩] := by
  refine DSpec_intro [] [(30, 0, 1)] (fn := Try.f72) Try.func72 rfl Try.call72 (by simp [Try.ntmps72]) (by simp) (by simp) ?_
  intro hwf B hnt
  simp only [argS]
  have h4 : IntKind.u64.wrap (n : Int) = n := wrapU64_in (by omega) (by omega)
  have h5 : IntKind.i64.wrap (n : Int) = n := wrap64_in (by omega) (by omega)
  (repeat (first
      | (refine DW_seq fun K hK => ?_)
      | (refine DW_r anW7272 Try.mixed (by kernel_rfl) ?_; simp [hnt, Try.ntmps72, Try.results72, anW7272, h4, h5]; try simp (disch := omega) only [wrap64_in])
      | (refine DW_block ?_)
      | (focus (refine DW_if ?_ ?_ ?_; (· (simp [hnt, Try.ntmps72, Try.results72, anW7272, h4, h5]; done)); (try (rotate_left; (· (intro hc; (try simp [hnt, Try.ntmps72, Try.results72, anW7272, h4, h5] at hc); done))))))
      | (refine DW_ret ?_; simp [hnt, Try.ntmps72, Try.results72, anW7272, h4, h5])
      | (refine DW_exit ?_; simp [hnt, Try.ntmps72, Try.results72, anW7272, h4, h5])
      | (refine DW_skip ?_; simp [hnt, Try.ntmps72, Try.results72, anW7272, h4, h5])
      | (intro hc; (try simp [hnt, Try.ntmps72, Try.results72, anW7272, h4, h5] at hc); done)
      | (intro hc; (try simp [hnt, Try.ntmps72, Try.results72, anW7272, h4, h5] at hc); (first | (exfalso; omega) | skip))
      | (refine callP_mk (mul_pure n h1) ?_; try simp [hnt, Try.ntmps72, Try.results72, anW7272, h4, h5])
      | (refine callP_wk (mul_pure n h1) ?_ ?_; (· (simp; done)); try simp [hnt, Try.ntmps72, Try.results72, anW7272, h4, h5])
      | (refine ⟨?_, ?_⟩; · omega)
      | omega
      | apply_assumption -exfalso -symm
      | (exfalso; omega)))
  refine DW_loop (X := {k : Nat // 1 ≤ k ∧ k ≤ n}) (fun k => ⟨[(7, .osl 30 1), (8, .int .i64 k.1)], [⟨30, 1, .row 3 1 8 ((List.replicate k.1 (-1) ++ List.replicate (n - k.1) 0).map dInt1)⟩]⟩) (fun k => n - k.1) ⟨1, by omega⟩ (Sub.lit (by simp [copy_one h0, dInt1, Nat.min_eq_left h0])) ?_
  rintro ⟨k, hk0, hk⟩
  by_cases hlt : k < n
  · have g1 : (k : Int) + (min k (n - k) : Nat) = ((k + min k (n - k) : Nat) : Int) := by omega
    (repeat (first
        | (refine DW_seq fun K hK => ?_)
        | (refine DW_r anW7272 Try.mixed (by kernel_rfl) ?_; simp [hnt, Try.ntmps72, Try.results72, anW7272, hlt, hk, h4, h5]; try simp (disch := omega) only [wrap64_in])
        | (refine DW_block ?_)
        | (focus (refine DW_if ?_ ?_ ?_; (· (simp [hnt, Try.ntmps72, Try.results72, anW7272, hlt, hk, h4, h5]; done)); (try (rotate_left; (· (intro hc; (try simp [hnt, Try.ntmps72, Try.results72, anW7272, hlt, hk, h4, h5] at hc); done))))))
        | (refine DW_ret ?_; simp [hnt, Try.ntmps72, Try.results72, anW7272, hlt, hk, h4, h5])
        | (refine DW_exit ?_; simp [hnt, Try.ntmps72, Try.results72, anW7272, hlt, hk, h4, h5])
        | (refine DW_skip ?_; simp [hnt, Try.ntmps72, Try.results72, anW7272, hlt, hk, h4, h5])
        | (intro hc; (try simp [hnt, Try.ntmps72, Try.results72, anW7272, hlt, hk, h4, h5] at hc); done)
        | (intro hc; (try simp [hnt, Try.ntmps72, Try.results72, anW7272, hlt, hk, h4, h5] at hc); (first | (exfalso; omega) | skip))
        | (refine callP_mk (mul_pure n h1) ?_; try simp [hnt, Try.ntmps72, Try.results72, anW7272, hlt, hk, h4, h5])
        | (refine callP_wk (mul_pure n h1) ?_ ?_; (· (simp; done)); try simp [hnt, Try.ntmps72, Try.results72, anW7272, hlt, hk, h4, h5])
        | (refine ⟨?_, ?_⟩; · omega)
        | omega
        | apply_assumption -exfalso -symm
        | (exfalso; omega)))
    refine Again.mk ⟨k + min k (n - k), by omega, by omega⟩ (Sub.lit (by simp [copy_rep hk])) (by simp; omega)
    (repeat (first
        | (refine DW_seq fun K hK => ?_)
        | (refine DW_r anW7272 Try.mixed (by kernel_rfl) ?_; simp [hnt, Try.ntmps72, Try.results72, anW7272]; try simp (disch := omega) only [wrap64_in])
        | (refine DW_block ?_)
        | (focus (refine DW_if ?_ ?_ ?_; (· (simp [hnt, Try.ntmps72, Try.results72, anW7272]; done)); (try (rotate_left; (· (intro hc; (try simp [hnt, Try.ntmps72, Try.results72, anW7272] at hc); done))))))
        | (refine DW_ret ?_; simp [hnt, Try.ntmps72, Try.results72, anW7272])
        | (refine DW_exit ?_; simp [hnt, Try.ntmps72, Try.results72, anW7272])
        | (refine DW_skip ?_; simp [hnt, Try.ntmps72, Try.results72, anW7272])
        | (intro hc; (try simp [hnt, Try.ntmps72, Try.results72, anW7272] at hc); done)
        | (intro hc; (try simp [hnt, Try.ntmps72, Try.results72, anW7272] at hc); (first | (exfalso; omega) | skip))
        | (refine callP_mk (mul_pure n h1) ?_; try simp [hnt, Try.ntmps72, Try.results72, anW7272])
        | (refine callP_wk (mul_pure n h1) ?_ ?_; (· (simp; done)); try simp [hnt, Try.ntmps72, Try.results72, anW7272])
        | (refine ⟨?_, ?_⟩; · omega)
        | omega
        | apply_assumption -exfalso -symm
        | (exfalso; omega)))
  · have hkk : k = n := by omega
    subst hkk
    (repeat (first
        | (refine DW_seq fun K hK => ?_)
        | (refine DW_r anW7272 Try.mixed (by kernel_rfl) ?_; simp [hnt, Try.ntmps72, Try.results72, anW7272]; try simp (disch := omega) only [wrap64_in])
        | (refine DW_block ?_)
        | (focus (refine DW_if ?_ ?_ ?_; (· (simp [hnt, Try.ntmps72, Try.results72, anW7272]; done)); (try (rotate_left; (· (intro hc; (try simp [hnt, Try.ntmps72, Try.results72, anW7272] at hc); done))))))
        | (refine DW_ret ?_; simp [hnt, Try.ntmps72, Try.results72, anW7272])
        | (refine DW_exit ?_; simp [hnt, Try.ntmps72, Try.results72, anW7272])
        | (refine DW_skip ?_; simp [hnt, Try.ntmps72, Try.results72, anW7272])
        | (intro hc; (try simp [hnt, Try.ntmps72, Try.results72, anW7272] at hc); done)
        | (intro hc; (try simp [hnt, Try.ntmps72, Try.results72, anW7272] at hc); (first | (exfalso; omega) | skip))
        | (refine callP_mk (mul_pure n h1) ?_; try simp [hnt, Try.ntmps72, Try.results72, anW7272])
        | (refine callP_wk (mul_pure n h1) ?_ ?_; (· (simp; done)); try simp [hnt, Try.ntmps72, Try.results72, anW7272])
        | (refine ⟨?_, ?_⟩; · omega)
        | omega
        | apply_assumption -exfalso -symm
        | (exfalso; omega)))
end Go.Proofs.Ytihkcegelghcpaa
end

section
/- least.grow, least.Shortest -/


set_option linter.unusedSimpArgs false
set_option linter.unusedVariables false
namespace Go.Proofs.Ytihkcegelghcpaa
open Go Go.Dm
attribute [local irreducible] DW callP callS
set_option maxRecDepth 100000

def anW7373 : Ann := ⟨[17], [⟨6, [6], [], []⟩]⟩
set_option maxHeartbeats 1000000 in
theorem grow_spec (c : Cnf) (hc : ∀ p ∈ c.prods, (0 ≤ p.head ∧ p.head < c.nts) ∧ ∀ s ∈ p.body, symG c.nts s) (out : List Int) (ho : out.length = c.nts.toNat) (h1 : SoundW c.prods out) (h2 : OutOK out) :
    DSpec Try.prog (.func 73) [.agg (dCnf c), .fn (.func 74) [] [.bx 0 0 0]] [⟨0, 0, .box [.osl 1 0]⟩, ⟨1, 0, .row 3 1 8 (out.map dInt1)⟩] (.tup [])
      [⟨0, 0, .box [.osl 1 0]⟩, ⟨1, 0, .row 3 1 8 ((shortC c).map dInt1)⟩] := by
  refine DSpec_intro [] [(0, 0, 0), (1, 1, 0)] (fn := Try.f73) Try.func73 rfl Try.call73 (by simp [Try.ntmps73]) (by simp) (by simp) ?_
  intro hwf B hnt
  simp only [argS]
  obtain ⟨N, ps⟩ := c
  simp only at hc ho h1
  have hb : ∀ p ∈ ps, (0 ≤ p.head ∧ p.head < ((N.toNat : Nat) : Int)) ∧ ∀ s ∈ p.body, s.label = false → 0 ≤ s.n ∧ s.n < ((N.toNat : Nat) : Int) := by
    intro p hp
    obtain ⟨g1, g2⟩ := hc p hp
    refine ⟨⟨g1.1, by omega⟩, fun s hs hl => ?_⟩
    have := g2 s hs
    unfold symG at this
    rw [if_neg (by simp [hl])] at this
    exact ⟨this.1, by omega⟩
  have hpl : ps.length < 9223372036854775807 := by have := hwf; simp [dCnf, maxLen] at this; omega
  (repeat (first
      | (refine DW_seq fun K hK => ?_)
      | (refine DW_r anW7373 Try.mixed (by kernel_rfl) ?_; simp [hnt, Try.ntmps73, Try.results73, anW7373, dCnf]; try simp (disch := omega) only [wrap64_in])
      | (refine DW_block ?_)
      | (focus (refine DW_if ?_ ?_ ?_; (· (simp [hnt, Try.ntmps73, Try.results73, anW7373, dCnf]; done)); (try (rotate_left; (· (intro hc; (try simp [hnt, Try.ntmps73, Try.results73, anW7373, dCnf] at hc); done))))))
      | (refine DW_ret ?_; simp [hnt, Try.ntmps73, Try.results73, anW7373, dCnf])
      | (refine DW_exit ?_; simp [hnt, Try.ntmps73, Try.results73, anW7373, dCnf])
      | (refine DW_skip ?_; simp [hnt, Try.ntmps73, Try.results73, anW7373, dCnf])
      | (intro hc; (try simp [hnt, Try.ntmps73, Try.results73, anW7373, dCnf] at hc); done)
      | (intro hc; (try simp [hnt, Try.ntmps73, Try.results73, anW7373, dCnf] at hc); (first | (exfalso; omega) | skip))
      | (refine ⟨?_, ?_⟩; · omega)
      | omega
      | apply_assumption -exfalso -symm
      | (exfalso; omega)))
  refine DW_loop (X := {x : List Int × Bool // x.1.length = N.toNat ∧ SoundW ps x.1 ∧ OutOK x.1 ∧ (x.2 = false → ClosedW ps x.1)})
    (fun x => ⟨[(1, .fn (.func 74) [] [.bx 0 0 0]), (2, .ref [.int .i64 N, dProds ps]), (4, .bool x.1.2)], [⟨0, 0, .box [.osl 1 0]⟩, ⟨1, 0, .row 3 1 8 (x.1.1.map dInt1)⟩]⟩)
    (fun x => 2 * mu x.1.1 + (if x.1.2 then 1 else 0)) ⟨(out, true), ho, h1, h2, by simp⟩ (Sub.lit (by simp)) ?_
  rintro ⟨⟨o, ag⟩, q1, q2, q3, q4⟩
  simp only at q1 q2 q3 q4 ⊢
  cases ag
  · have := short_of (c := ⟨N, ps⟩) hc q1 q2 (q4 rfl)
    subst this
    (repeat (first
        | (refine DW_seq fun K hK => ?_)
        | (refine DW_r anW7373 Try.mixed (by kernel_rfl) ?_; simp [hnt, Try.ntmps73, Try.results73, anW7373, dCnf]; try simp (disch := omega) only [wrap64_in])
        | (refine DW_block ?_)
        | (focus (refine DW_if ?_ ?_ ?_; (· (simp [hnt, Try.ntmps73, Try.results73, anW7373, dCnf]; done)); (try (rotate_left; (· (intro hc; (try simp [hnt, Try.ntmps73, Try.results73, anW7373, dCnf] at hc); done))))))
        | (refine DW_ret ?_; simp [hnt, Try.ntmps73, Try.results73, anW7373, dCnf])
        | (refine DW_exit ?_; simp [hnt, Try.ntmps73, Try.results73, anW7373, dCnf])
        | (refine DW_skip ?_; simp [hnt, Try.ntmps73, Try.results73, anW7373, dCnf])
        | (intro hc; (try simp [hnt, Try.ntmps73, Try.results73, anW7373, dCnf] at hc); done)
        | (intro hc; (try simp [hnt, Try.ntmps73, Try.results73, anW7373, dCnf] at hc); (first | (exfalso; omega) | skip))
        | (refine ⟨?_, ?_⟩; · omega)
        | omega
        | apply_assumption -exfalso -symm
        | (exfalso; omega)))
  · (repeat (first
      | (refine DW_seq fun K hK => ?_)
      | (refine DW_r anW7373 Try.mixed (by kernel_rfl) ?_; simp [hnt, Try.ntmps73, Try.results73, anW7373, dCnf]; try simp (disch := omega) only [wrap64_in])
      | (refine DW_block ?_)
      | (focus (refine DW_if ?_ ?_ ?_; (· (simp [hnt, Try.ntmps73, Try.results73, anW7373, dCnf]; done)); (try (rotate_left; (· (intro hc; (try simp [hnt, Try.ntmps73, Try.results73, anW7373, dCnf] at hc); done))))))
      | (refine DW_ret ?_; simp [hnt, Try.ntmps73, Try.results73, anW7373, dCnf])
      | (refine DW_exit ?_; simp [hnt, Try.ntmps73, Try.results73, anW7373, dCnf])
      | (refine DW_skip ?_; simp [hnt, Try.ntmps73, Try.results73, anW7373, dCnf])
      | (intro hc; (try simp [hnt, Try.ntmps73, Try.results73, anW7373, dCnf] at hc); done)
      | (intro hc; (try simp [hnt, Try.ntmps73, Try.results73, anW7373, dCnf] at hc); (first | (exfalso; omega) | skip))
      | (refine ⟨?_, ?_⟩; · omega)
      | omega
      | apply_assumption -exfalso -symm
      | (exfalso; omega)))
    refine DW_loop (X := {x : Nat × List Int × Bool // x.1 ≤ ps.length ∧ x.2.1.length = N.toNat ∧ SoundW ps x.2.1 ∧ OutOK x.2.1 ∧ (x.2.2 = false → x.2.1 = o ∧ ∀ i p, i < x.1 → ps[i]? = some p → stepF o p = none) ∧ (x.2.2 = true → mu x.2.1 < mu o)})
      (fun x => ⟨[(1, .fn (.func 74) [] [.bx 0 0 0]), (2, .ref [.int .i64 N, dProds ps]), (4, .bool x.1.2.2), (9, dProds ps), (10, .int .i64 ps.length), (11, .int .i64 x.1.1)], [⟨0, 0, .box [.osl 1 0]⟩, ⟨1, 0, .row 3 1 8 (x.1.2.1.map dInt1)⟩]⟩)
      (fun x => ps.length - x.1.1) ⟨(0, o, false), by simp, q1, q2, q3, by simp, by simp⟩ (Sub.lit (by simp)) ?_
    rintro ⟨⟨k, o1, a1⟩, hk, g1, g2, g3, g4, g5⟩
    simp only at hk g1 g2 g3 g4 g5 ⊢
    by_cases hlt : k < ps.length
    · obtain ⟨p, hp, hp', hpm⟩ := at_lt' hlt
      obtain ⟨b1, b2⟩ := hb p hpm
      rw [← g1] at b1 b2
      have e1 := short1_spec p o1 g3 b1 b2
      obtain ⟨O, hO⟩ : ∃ O, O = stepO o1 p := ⟨_, rfl⟩
      have k1 : O.length = N.toNat := by rw [hO, stepO_len, g1]
      have k2 : SoundW ps O := by rw [hO]; exact stepO_sound g2 hpm b1.1 fun s hs hl => (b2 s hs hl).1
      have k3 : OutOK O := by rw [hO]; exact stepO_ok g3 b1
      cases hS : stepF o1 p with
      | none =>
        have hOe : O = o1 := by rw [hO]; unfold stepO; rw [hS]
        rw [← hO, hS, hOe] at e1
        simp only [Option.isSome_none] at e1
        (repeat (first
            | (refine DW_seq fun K hK => ?_)
            | (refine DW_r anW7373 Try.mixed (by kernel_rfl) ?_; simp [hnt, Try.ntmps73, Try.results73, anW7373, dProd, hlt, hp, hp']; try simp (disch := omega) only [wrap64_in])
            | (refine DW_block ?_)
            | (focus (refine DW_if ?_ ?_ ?_; (· (simp [hnt, Try.ntmps73, Try.results73, anW7373, dProd, hlt, hp, hp']; done)); (try (rotate_left; (· (intro hc; (try simp [hnt, Try.ntmps73, Try.results73, anW7373, dProd, hlt, hp, hp'] at hc); done))))))
            | (refine DW_ret ?_; simp [hnt, Try.ntmps73, Try.results73, anW7373, dProd, hlt, hp, hp'])
            | (refine DW_exit ?_; simp [hnt, Try.ntmps73, Try.results73, anW7373, dProd, hlt, hp, hp'])
            | (refine DW_skip ?_; simp [hnt, Try.ntmps73, Try.results73, anW7373, dProd, hlt, hp, hp'])
            | (intro hc; (try simp [hnt, Try.ntmps73, Try.results73, anW7373, dProd, hlt, hp, hp'] at hc); done)
            | (intro hc; (try simp [hnt, Try.ntmps73, Try.results73, anW7373, dProd, hlt, hp, hp'] at hc); (first | (exfalso; omega) | skip))
            | (refine callS_mk [(0,0),(1,1)] [] (e1) ?_ ?_; (· (simp [hnt, Try.ntmps73, Try.results73, anW7373, dProd, hlt, hp, hp']; done)); (intro _; try simp [hnt, Try.ntmps73, Try.results73, anW7373, dProd, hlt, hp, hp']))
            | (refine ⟨?_, ?_⟩; · omega)
            | omega
            | apply_assumption -exfalso -symm
            | (exfalso; omega)))
        refine Again.mk ⟨(k + 1, o1, a1), show k + 1 ≤ ps.length ∧ o1.length = N.toNat ∧ SoundW ps o1 ∧ OutOK o1 ∧ (a1 = false → o1 = o ∧ ∀ i p, i < k + 1 → ps[i]? = some p → stepF o p = none) ∧ (a1 = true → mu o1 < mu o) from ⟨by omega, g1, g2, g3, fun ha => ⟨(g4 ha).1, fun i q hi hq => ?_⟩, g5⟩⟩ (Sub.lit (by simp)) (by simp; omega)
        · obtain ⟨r1, r2⟩ := g4 ha
          by_cases hik : i < k
          · exact r2 i q hik hq
          · have : i = k := by omega
            subst this
            rw [hp] at hq
            simp only [Option.some.injEq] at hq
            subst hq
            rw [← r1]
            exact hS
        (repeat (first
            | (refine DW_seq fun K hK => ?_)
            | (refine DW_r anW7373 Try.mixed (by kernel_rfl) ?_; simp [hnt, Try.ntmps73, Try.results73, anW7373]; try simp (disch := omega) only [wrap64_in])
            | (refine DW_block ?_)
            | (focus (refine DW_if ?_ ?_ ?_; (· (simp [hnt, Try.ntmps73, Try.results73, anW7373]; done)); (try (rotate_left; (· (intro hc; (try simp [hnt, Try.ntmps73, Try.results73, anW7373] at hc); done))))))
            | (refine DW_ret ?_; simp [hnt, Try.ntmps73, Try.results73, anW7373])
            | (refine DW_exit ?_; simp [hnt, Try.ntmps73, Try.results73, anW7373])
            | (refine DW_skip ?_; simp [hnt, Try.ntmps73, Try.results73, anW7373])
            | (intro hc; (try simp [hnt, Try.ntmps73, Try.results73, anW7373] at hc); done)
            | (intro hc; (try simp [hnt, Try.ntmps73, Try.results73, anW7373] at hc); (first | (exfalso; omega) | skip))
            | (refine callS_mk [(0,0),(1,1)] [] (e1) ?_ ?_; (· (simp [hnt, Try.ntmps73, Try.results73, anW7373]; done)); (intro _; try simp [hnt, Try.ntmps73, Try.results73, anW7373]))
            | (refine ⟨?_, ?_⟩; · omega)
            | omega
            | apply_assumption -exfalso -symm
            | (exfalso; omega)))
      | some n =>
        have hm := (step_mu g3 b1 hS).1
        rw [← hO] at hm
        rw [← hO, hS] at e1
        simp only [Option.isSome_some] at e1
        (repeat (first
            | (refine DW_seq fun K hK => ?_)
            | (refine DW_r anW7373 Try.mixed (by kernel_rfl) ?_; simp [hnt, Try.ntmps73, Try.results73, anW7373, dProd, hlt, hp, hp']; try simp (disch := omega) only [wrap64_in])
            | (refine DW_block ?_)
            | (focus (refine DW_if ?_ ?_ ?_; (· (simp [hnt, Try.ntmps73, Try.results73, anW7373, dProd, hlt, hp, hp']; done)); (try (rotate_left; (· (intro hc; (try simp [hnt, Try.ntmps73, Try.results73, anW7373, dProd, hlt, hp, hp'] at hc); done))))))
            | (refine DW_ret ?_; simp [hnt, Try.ntmps73, Try.results73, anW7373, dProd, hlt, hp, hp'])
            | (refine DW_exit ?_; simp [hnt, Try.ntmps73, Try.results73, anW7373, dProd, hlt, hp, hp'])
            | (refine DW_skip ?_; simp [hnt, Try.ntmps73, Try.results73, anW7373, dProd, hlt, hp, hp'])
            | (intro hc; (try simp [hnt, Try.ntmps73, Try.results73, anW7373, dProd, hlt, hp, hp'] at hc); done)
            | (intro hc; (try simp [hnt, Try.ntmps73, Try.results73, anW7373, dProd, hlt, hp, hp'] at hc); (first | (exfalso; omega) | skip))
            | (refine callS_mk [(0,0),(1,1)] [] (e1) ?_ ?_; (· (simp [hnt, Try.ntmps73, Try.results73, anW7373, dProd, hlt, hp, hp']; done)); (intro _; try simp [hnt, Try.ntmps73, Try.results73, anW7373, dProd, hlt, hp, hp']))
            | (refine ⟨?_, ?_⟩; · omega)
            | omega
            | apply_assumption -exfalso -symm
            | (exfalso; omega)))
        refine Again.mk ⟨(k + 1, O, true), show k + 1 ≤ ps.length ∧ O.length = N.toNat ∧ SoundW ps O ∧ OutOK O ∧ (true = false → O = o ∧ ∀ i p, i < k + 1 → ps[i]? = some p → stepF o p = none) ∧ (true = true → mu O < mu o) from ⟨by omega, k1, k2, k3, by simp, fun _ => ?_⟩⟩ (Sub.lit (by simp)) (by simp; omega)
        · cases a1
          · rw [← (g4 rfl).1]; exact hm
          · exact Nat.lt_trans hm (g5 rfl)
        (repeat (first
            | (refine DW_seq fun K hK => ?_)
            | (refine DW_r anW7373 Try.mixed (by kernel_rfl) ?_; simp [hnt, Try.ntmps73, Try.results73, anW7373]; try simp (disch := omega) only [wrap64_in])
            | (refine DW_block ?_)
            | (focus (refine DW_if ?_ ?_ ?_; (· (simp [hnt, Try.ntmps73, Try.results73, anW7373]; done)); (try (rotate_left; (· (intro hc; (try simp [hnt, Try.ntmps73, Try.results73, anW7373] at hc); done))))))
            | (refine DW_ret ?_; simp [hnt, Try.ntmps73, Try.results73, anW7373])
            | (refine DW_exit ?_; simp [hnt, Try.ntmps73, Try.results73, anW7373])
            | (refine DW_skip ?_; simp [hnt, Try.ntmps73, Try.results73, anW7373])
            | (intro hc; (try simp [hnt, Try.ntmps73, Try.results73, anW7373] at hc); done)
            | (intro hc; (try simp [hnt, Try.ntmps73, Try.results73, anW7373] at hc); (first | (exfalso; omega) | skip))
            | (refine callS_mk [(0,0),(1,1)] [] (e1) ?_ ?_; (· (simp [hnt, Try.ntmps73, Try.results73, anW7373]; done)); (intro _; try simp [hnt, Try.ntmps73, Try.results73, anW7373]))
            | (refine ⟨?_, ?_⟩; · omega)
            | omega
            | apply_assumption -exfalso -symm
            | (exfalso; omega)))
    · have hkk : k = ps.length := by omega
      subst hkk
      (repeat (first
          | (refine DW_seq fun K hK => ?_)
          | (refine DW_r anW7373 Try.mixed (by kernel_rfl) ?_; simp [hnt, Try.ntmps73, Try.results73, anW7373]; try simp (disch := omega) only [wrap64_in])
          | (refine DW_block ?_)
          | (focus (refine DW_if ?_ ?_ ?_; (· (simp [hnt, Try.ntmps73, Try.results73, anW7373]; done)); (try (rotate_left; (· (intro hc; (try simp [hnt, Try.ntmps73, Try.results73, anW7373] at hc); done))))))
          | (refine DW_ret ?_; simp [hnt, Try.ntmps73, Try.results73, anW7373])
          | (refine DW_exit ?_; simp [hnt, Try.ntmps73, Try.results73, anW7373])
          | (refine DW_skip ?_; simp [hnt, Try.ntmps73, Try.results73, anW7373])
          | (intro hc; (try simp [hnt, Try.ntmps73, Try.results73, anW7373] at hc); done)
          | (intro hc; (try simp [hnt, Try.ntmps73, Try.results73, anW7373] at hc); (first | (exfalso; omega) | skip))
          | (refine ⟨?_, ?_⟩; · omega)
          | omega
          | apply_assumption -exfalso -symm
          | (exfalso; omega)))
      refine Again.mk ⟨(o1, a1), show o1.length = N.toNat ∧ SoundW ps o1 ∧ OutOK o1 ∧ (a1 = false → ClosedW ps o1) from ⟨g1, g2, g3, fun ha => ?_⟩⟩ (Sub.lit (by simp)) ?_
      · obtain ⟨r1, r2⟩ := g4 ha
        rw [r1]
        refine closed_of (fun p hp => ?_) fun p hp => ?_
        · obtain ⟨i, hi, rfl⟩ := List.getElem_of_mem hp
          exact r2 i _ hi (List.getElem?_eq_getElem hi)
        · have := (hb p hp).1
          rw [q1]; exact this
      · cases a1
        · simp [(g4 rfl).1]
        · have := g5 rfl
          simp; omega
      (repeat (first
          | (refine DW_seq fun K hK => ?_)
          | (refine DW_r anW7373 Try.mixed (by kernel_rfl) ?_; simp [hnt, Try.ntmps73, Try.results73, anW7373]; try simp (disch := omega) only [wrap64_in])
          | (refine DW_block ?_)
          | (focus (refine DW_if ?_ ?_ ?_; (· (simp [hnt, Try.ntmps73, Try.results73, anW7373]; done)); (try (rotate_left; (· (intro hc; (try simp [hnt, Try.ntmps73, Try.results73, anW7373] at hc); done))))))
          | (refine DW_ret ?_; simp [hnt, Try.ntmps73, Try.results73, anW7373])
          | (refine DW_exit ?_; simp [hnt, Try.ntmps73, Try.results73, anW7373])
          | (refine DW_skip ?_; simp [hnt, Try.ntmps73, Try.results73, anW7373])
          | (intro hc; (try simp [hnt, Try.ntmps73, Try.results73, anW7373] at hc); done)
          | (intro hc; (try simp [hnt, Try.ntmps73, Try.results73, anW7373] at hc); (first | (exfalso; omega) | skip))
          | (refine ⟨?_, ?_⟩; · omega)
          | omega
          | apply_assumption -exfalso -symm
          | (exfalso; omega)))

def anW7337 : Ann := ⟨[14, 17], []⟩
theorem shortest_pure (c : Cnf) (h : cnfOK c = true) : DPure Try.prog 37 [.agg (dCnf c)] (.tup [.sl 1 8 ((shortC c).map dInt1), .int .i64 0]) := by
  refine DPure_introF [14] (fn := Try.f37) Try.func37 rfl Try.call37 (by simp [Try.ntmps37]) (by simp [mx]) ?_
  intro hwf B hnt
  simp only [argS]
  obtain ⟨h1, h2⟩ := cnfOK_iff.1 h
  have e1 := check_pure c
  have e2 := repeat_spec c.nts.toNat (by omega) (by omega)
  have e3 := grow_spec c h2 (List.replicate c.nts.toNat (-1)) (by simp) (fun n v hv => by
    left
    rw [List.getElem?_replicate] at hv
    split at hv <;> simp_all) (fun v hv => by
    rw [List.mem_replicate] at hv
    omega)
  rw [if_pos h] at e1
  obtain ⟨N, ps⟩ := c
  have hN : ((N.toNat : Nat) : Int) = N := by simp only at h1; omega
  simp only at e1 e2 e3 h1
  rw [hN] at e2
  (repeat (first
      | (refine DW_seq fun K hK => ?_)
      | (refine DW_r anW7337 Try.mixed (by kernel_rfl) ?_; simp [hnt, Try.ntmps37, Try.results37, anW7337, dCnf, dInt1]; try simp (disch := omega) only [wrap64_in])
      | (refine DW_block ?_)
      | (focus (refine DW_if ?_ ?_ ?_; (· (simp [hnt, Try.ntmps37, Try.results37, anW7337, dCnf, dInt1]; done)); (try (rotate_left; (· (intro hc; (try simp [hnt, Try.ntmps37, Try.results37, anW7337, dCnf, dInt1] at hc); done))))))
      | (refine DW_ret ?_; simp [hnt, Try.ntmps37, Try.results37, anW7337, dCnf, dInt1])
      | (refine DW_exit ?_; simp [hnt, Try.ntmps37, Try.results37, anW7337, dCnf, dInt1])
      | (refine DW_skip ?_; simp [hnt, Try.ntmps37, Try.results37, anW7337, dCnf, dInt1])
      | (intro hc; (try simp [hnt, Try.ntmps37, Try.results37, anW7337, dCnf, dInt1] at hc); done)
      | (intro hc; (try simp [hnt, Try.ntmps37, Try.results37, anW7337, dCnf, dInt1] at hc); (first | (exfalso; omega) | skip))
      | (refine callP_mk (e1) ?_; try simp [hnt, Try.ntmps37, Try.results37, anW7337, dCnf, dInt1])
      | (refine callP_wk (e1) ?_ ?_; (· (simp; done)); try simp [hnt, Try.ntmps37, Try.results37, anW7337, dCnf, dInt1])
      | (refine callS_mk [] [(14,0)] (e2) ?_ ?_; (· (simp [hnt, Try.ntmps37, Try.results37, anW7337, dCnf, dInt1]; done)); (intro _; try simp [hnt, Try.ntmps37, Try.results37, anW7337, dCnf, dInt1]))
      | (refine callS_mk [(5,0),(14,1)] [] (e3) ?_ ?_; (· (simp [hnt, Try.ntmps37, Try.results37, anW7337, dCnf, dInt1]; done)); (intro _; try simp [hnt, Try.ntmps37, Try.results37, anW7337, dCnf, dInt1]))
      | (refine ⟨?_, ?_⟩; · omega)
      | omega
      | apply_assumption -exfalso -symm
      | (exfalso; omega)))
end Go.Proofs.Ytihkcegelghcpaa
end

section
/- A part of a proof: walks over the functions that it names; their contracts hold for every argument. -/


set_option linter.unusedSimpArgs false
set_option linter.unusedVariables false
namespace Go.Proofs.Ytihkcegelghcpaa
open Go Go.Dm
attribute [local irreducible] DW callP callS
set_option maxRecDepth 100000

theorem cmpI_lt {a b : Int} : cmpI a b < 0 ↔ a < b := by unfold cmpI; split <;> (try split) <;> constructor <;> intro h <;> omega
theorem cmpI_0 {a b : Int} : cmpI a b = 0 ↔ a = b := by unfold cmpI; split <;> (try split) <;> constructor <;> intro h <;> omega

def anW100130 : Ann := ⟨[], []⟩
theorem symLess_pure (x y : Sym) : DPure Try.prog 130 [.agg (dSym x), .agg (dSym y)] (.bool (decide (symC x y < 0))) := by
  refine DPure_introF [] (fn := Try.f130) Try.func130 rfl Try.call130 (by simp [Try.ntmps130]) (by simp [mx]) ?_
  intro hwf B hnt
  simp only [argS]
  cases h1 : x.label <;> cases h2 : y.label <;> (repeat (first
      | (refine DW_seq fun K hK => ?_)
      | (refine DW_r anW100130 Try.mixed (by kernel_rfl) ?_; simp [hnt, Try.ntmps130, Try.results130, anW100130, dSym, h1, h2, symC, cmpI_lt]; try simp (disch := omega) only [wrap64_in])
      | (refine DW_block ?_)
      | (focus (refine DW_if ?_ ?_ ?_; (· (simp [hnt, Try.ntmps130, Try.results130, anW100130, dSym, h1, h2, symC, cmpI_lt]; done)); (try (rotate_left; (· (intro hc; (try simp [hnt, Try.ntmps130, Try.results130, anW100130, dSym, h1, h2, symC, cmpI_lt] at hc); done))))))
      | (refine DW_ret ?_; simp [hnt, Try.ntmps130, Try.results130, anW100130, dSym, h1, h2, symC, cmpI_lt])
      | (refine DW_exit ?_; simp [hnt, Try.ntmps130, Try.results130, anW100130, dSym, h1, h2, symC, cmpI_lt])
      | (refine DW_skip ?_; simp [hnt, Try.ntmps130, Try.results130, anW100130, dSym, h1, h2, symC, cmpI_lt])
      | (intro hc; (try simp [hnt, Try.ntmps130, Try.results130, anW100130, dSym, h1, h2, symC, cmpI_lt] at hc); done)
      | (intro hc; (try simp [hnt, Try.ntmps130, Try.results130, anW100130, dSym, h1, h2, symC, cmpI_lt] at hc); (first | (exfalso; omega) | skip))
      | (refine ⟨?_, ?_⟩; · omega)
      | omega
      | apply_assumption -exfalso -symm
      | (exfalso; omega)))

theorem symC_0 {x y : Sym} : symC x y = 0 ↔ x = y := by
  obtain ⟨l, n⟩ := x
  obtain ⟨l', n'⟩ := y
  cases l <;> cases l' <;> simp [symC, cmpI_0]

def anW100100 : Ann := ⟨[], []⟩
set_option maxHeartbeats 4000000 in
theorem less_pure (p q : Prod) : DPure Try.prog 100 [.agg (dProd p), .agg (dProd q)] (.bool (decide (prodC p q < 0))) := by
  refine DPure_introF [] (fn := Try.f100) Try.func100 rfl Try.call100 (by simp [Try.ntmps100]) (by simp [mx]) ?_
  intro hwf B hnt
  have hw : wProd p := w_prod (by simpa [wfL, wfD] using hwf.1)
  obtain ⟨hw1, hw2, hw3, hw4⟩ := hw
  clear hwf
  simp only [argS]
  by_cases h0 : p.head = q.head
  rotate_left
  · have hb : (p.head != q.head) = true := by simp [h0]
    have hpc : prodC p q = cmpI p.head q.head := by unfold prodC; rw [if_neg (fun hh => h0 (cmpI_0.1 hh))]
    (repeat (first
        | (refine DW_seq fun K hK => ?_)
        | (refine DW_r anW100100 Try.mixed (by kernel_rfl) ?_; simp [hnt, Try.ntmps100, Try.results100, anW100100, dProd, h0, hb, hpc, cmpI_lt]; try simp (disch := omega) only [wrap64_in])
        | (refine DW_block ?_)
        | (focus (refine DW_if ?_ ?_ ?_; (· (simp [hnt, Try.ntmps100, Try.results100, anW100100, dProd, h0, hb, hpc, cmpI_lt]; done)); (try (rotate_left; (· (intro hc; (try simp [hnt, Try.ntmps100, Try.results100, anW100100, dProd, h0, hb, hpc, cmpI_lt] at hc); done))))))
        | (refine DW_ret ?_; simp [hnt, Try.ntmps100, Try.results100, anW100100, dProd, h0, hb, hpc, cmpI_lt])
        | (refine DW_exit ?_; simp [hnt, Try.ntmps100, Try.results100, anW100100, dProd, h0, hb, hpc, cmpI_lt])
        | (refine DW_skip ?_; simp [hnt, Try.ntmps100, Try.results100, anW100100, dProd, h0, hb, hpc, cmpI_lt])
        | (intro hc; (try simp [hnt, Try.ntmps100, Try.results100, anW100100, dProd, h0, hb, hpc, cmpI_lt] at hc); done)
        | (intro hc; (try simp [hnt, Try.ntmps100, Try.results100, anW100100, dProd, h0, hb, hpc, cmpI_lt] at hc); (first | (exfalso; omega) | skip))
        | (refine ⟨?_, ?_⟩; · omega)
        | omega
        | apply_assumption -exfalso -symm
        | (exfalso; omega)))
  by_cases hl : p.body.length = q.body.length
  rotate_left
  · have hb : (p.head != q.head) = false := by simp [h0]
    have hl' : ((p.body.length : Int) != q.body.length) = true := by simp; omega
    have hl2 : ¬ (p.body.length : Int) = q.body.length := by omega
    have hpc : prodC p q = cmpI p.body.length q.body.length := by
      unfold prodC; rw [if_pos (cmpI_0.2 h0), if_neg (fun hh => hl2 (cmpI_0.1 hh))]
    (repeat (first
        | (refine DW_seq fun K hK => ?_)
        | (refine DW_r anW100100 Try.mixed (by kernel_rfl) ?_; simp [hnt, Try.ntmps100, Try.results100, anW100100, dProd, h0, hb, hl, hl', hl2, hpc, cmpI_lt]; try simp (disch := omega) only [wrap64_in])
        | (refine DW_block ?_)
        | (focus (refine DW_if ?_ ?_ ?_; (· (simp [hnt, Try.ntmps100, Try.results100, anW100100, dProd, h0, hb, hl, hl', hl2, hpc, cmpI_lt]; done)); (try (rotate_left; (· (intro hc; (try simp [hnt, Try.ntmps100, Try.results100, anW100100, dProd, h0, hb, hl, hl', hl2, hpc, cmpI_lt] at hc); done))))))
        | (refine DW_ret ?_; simp [hnt, Try.ntmps100, Try.results100, anW100100, dProd, h0, hb, hl, hl', hl2, hpc, cmpI_lt])
        | (refine DW_exit ?_; simp [hnt, Try.ntmps100, Try.results100, anW100100, dProd, h0, hb, hl, hl', hl2, hpc, cmpI_lt])
        | (refine DW_skip ?_; simp [hnt, Try.ntmps100, Try.results100, anW100100, dProd, h0, hb, hl, hl', hl2, hpc, cmpI_lt])
        | (intro hc; (try simp [hnt, Try.ntmps100, Try.results100, anW100100, dProd, h0, hb, hl, hl', hl2, hpc, cmpI_lt] at hc); done)
        | (intro hc; (try simp [hnt, Try.ntmps100, Try.results100, anW100100, dProd, h0, hb, hl, hl', hl2, hpc, cmpI_lt] at hc); (first | (exfalso; omega) | skip))
        | (refine ⟨?_, ?_⟩; · omega)
        | omega
        | apply_assumption -exfalso -symm
        | (exfalso; omega)))
  have hb : (p.head != q.head) = false := by simp [h0]
  obtain ⟨r, hr⟩ : ∃ r, r = decide (prodC p q < 0) := ⟨_, rfl⟩
  rw [← hr]
  have hpc : prodC p q = cmpL symC p.body q.body := by
    unfold prodC; rw [if_pos (cmpI_0.2 h0), if_pos (cmpI_0.2 (by omega))]; rfl
  rw [hpc] at hr
  clear hpc
  (repeat (first
      | (refine DW_seq fun K hK => ?_)
      | (refine DW_r anW100100 Try.mixed (by kernel_rfl) ?_; simp [hnt, Try.ntmps100, Try.results100, anW100100, dProd, h0, hb, hl]; try simp (disch := omega) only [wrap64_in])
      | (refine DW_block ?_)
      | (focus (refine DW_if ?_ ?_ ?_; (· (simp [hnt, Try.ntmps100, Try.results100, anW100100, dProd, h0, hb, hl]; done)); (try (rotate_left; (· (intro hc; (try simp [hnt, Try.ntmps100, Try.results100, anW100100, dProd, h0, hb, hl] at hc); done))))))
      | (refine DW_ret ?_; simp [hnt, Try.ntmps100, Try.results100, anW100100, dProd, h0, hb, hl])
      | (refine DW_exit ?_; simp [hnt, Try.ntmps100, Try.results100, anW100100, dProd, h0, hb, hl])
      | (refine DW_skip ?_; simp [hnt, Try.ntmps100, Try.results100, anW100100, dProd, h0, hb, hl])
      | (intro hc; (try simp [hnt, Try.ntmps100, Try.results100, anW100100, dProd, h0, hb, hl] at hc); done)
      | (intro hc; (try simp [hnt, Try.ntmps100, Try.results100, anW100100, dProd, h0, hb, hl] at hc); (first | (exfalso; omega) | skip))
      | (refine ⟨?_, ?_⟩; · omega)
      | omega
      | apply_assumption -exfalso -symm
      | (exfalso; omega)))
  refine DW_loop (X := {k : Nat // k ≤ q.body.length ∧ r = decide (cmpL symC (p.body.drop k) (q.body.drop k) < 0)}) (fun k => ⟨[(2, .ref (dProd p)), (3, .ref (dProd q)), (5, .int .i64 k.1)], []⟩) (fun k => q.body.length - k.1) ⟨0, by simp [hr]⟩ (Sub.lit (by simp [dProd, h0])) ?_
  rintro ⟨k, hk, hcc⟩
  clear hr
  by_cases hlt : k < q.body.length
  · obtain ⟨x, hx, hx', hxm⟩ := at_lt' (show k < p.body.length by omega)
    obtain ⟨y, hy, hy', hym⟩ := at_lt' hlt
    rw [cmpL_at hx hy] at hcc
    by_cases hxy : x = y
    · subst hxy
      rw [if_pos (symC_0.2 rfl)] at hcc
      clear hx hy
      (repeat (first
          | (refine DW_seq fun K hK => ?_)
          | (refine DW_r anW100100 Try.mixed (by kernel_rfl) ?_; simp [hnt, Try.ntmps100, Try.results100, anW100100, dProd, dSym, hl, hlt, hx', hy']; try simp (disch := omega) only [wrap64_in])
          | (refine DW_block ?_)
          | (focus (refine DW_if ?_ ?_ ?_; (· (simp [hnt, Try.ntmps100, Try.results100, anW100100, dProd, dSym, hl, hlt, hx', hy']; done)); (try (rotate_left; (· (intro hc; (try simp [hnt, Try.ntmps100, Try.results100, anW100100, dProd, dSym, hl, hlt, hx', hy'] at hc); done))))))
          | (refine DW_ret ?_; simp [hnt, Try.ntmps100, Try.results100, anW100100, dProd, dSym, hl, hlt, hx', hy'])
          | (refine DW_exit ?_; simp [hnt, Try.ntmps100, Try.results100, anW100100, dProd, dSym, hl, hlt, hx', hy'])
          | (refine DW_skip ?_; simp [hnt, Try.ntmps100, Try.results100, anW100100, dProd, dSym, hl, hlt, hx', hy'])
          | (intro hc; (try simp [hnt, Try.ntmps100, Try.results100, anW100100, dProd, dSym, hl, hlt, hx', hy'] at hc); done)
          | (intro hc; (try simp [hnt, Try.ntmps100, Try.results100, anW100100, dProd, dSym, hl, hlt, hx', hy'] at hc); (first | (exfalso; omega) | skip))
          | (refine ⟨?_, ?_⟩; · omega)
          | omega
          | apply_assumption -exfalso -symm
          | (exfalso; omega)))
      refine Again.mk ⟨k + 1, by omega, hcc⟩ (Sub.lit (by simp [dProd])) (by simp; omega)
      (repeat (first
          | (refine DW_seq fun K hK => ?_)
          | (refine DW_r anW100100 Try.mixed (by kernel_rfl) ?_; simp [hnt, Try.ntmps100, Try.results100, anW100100]; try simp (disch := omega) only [wrap64_in])
          | (refine DW_block ?_)
          | (focus (refine DW_if ?_ ?_ ?_; (· (simp [hnt, Try.ntmps100, Try.results100, anW100100]; done)); (try (rotate_left; (· (intro hc; (try simp [hnt, Try.ntmps100, Try.results100, anW100100] at hc); done))))))
          | (refine DW_ret ?_; simp [hnt, Try.ntmps100, Try.results100, anW100100])
          | (refine DW_exit ?_; simp [hnt, Try.ntmps100, Try.results100, anW100100])
          | (refine DW_skip ?_; simp [hnt, Try.ntmps100, Try.results100, anW100100])
          | (intro hc; (try simp [hnt, Try.ntmps100, Try.results100, anW100100] at hc); done)
          | (intro hc; (try simp [hnt, Try.ntmps100, Try.results100, anW100100] at hc); (first | (exfalso; omega) | skip))
          | (refine ⟨?_, ?_⟩; · omega)
          | omega
          | apply_assumption -exfalso -symm
          | (exfalso; omega)))
    · rw [if_neg (fun hh => hxy (symC_0.1 hh))] at hcc
      have hs := symLess_pure x y
      simp only [dSym] at hs
      rw [← hcc] at hs
      have hne : ¬ (x.label = y.label ∧ x.n = y.n) := fun hh => hxy (by cases x; cases y; simp_all)
      have hne' : x.label = y.label → ¬ x.n = y.n := fun h1 h2 => hne ⟨h1, h2⟩
      clear hx hy hcc
      (repeat (first
          | (refine DW_seq fun K hK => ?_)
          | (refine DW_r anW100100 Try.mixed (by kernel_rfl) ?_; simp [hnt, Try.ntmps100, Try.results100, anW100100, dProd, dSym, hl, hlt, hx', hy', hne, hne']; try simp (disch := omega) only [wrap64_in])
          | (refine DW_block ?_)
          | (focus (refine DW_if ?_ ?_ ?_; (· (simp [hnt, Try.ntmps100, Try.results100, anW100100, dProd, dSym, hl, hlt, hx', hy', hne, hne']; done)); (try (rotate_left; (· (intro hc; (try simp [hnt, Try.ntmps100, Try.results100, anW100100, dProd, dSym, hl, hlt, hx', hy', hne, hne'] at hc); done))))))
          | (refine DW_ret ?_; simp [hnt, Try.ntmps100, Try.results100, anW100100, dProd, dSym, hl, hlt, hx', hy', hne, hne'])
          | (refine DW_exit ?_; simp [hnt, Try.ntmps100, Try.results100, anW100100, dProd, dSym, hl, hlt, hx', hy', hne, hne'])
          | (refine DW_skip ?_; simp [hnt, Try.ntmps100, Try.results100, anW100100, dProd, dSym, hl, hlt, hx', hy', hne, hne'])
          | (intro hc; (try simp [hnt, Try.ntmps100, Try.results100, anW100100, dProd, dSym, hl, hlt, hx', hy', hne, hne'] at hc); done)
          | (intro hc; (try simp [hnt, Try.ntmps100, Try.results100, anW100100, dProd, dSym, hl, hlt, hx', hy', hne, hne'] at hc); (first | (exfalso; omega) | skip))
          | (refine callP_mk (hs) ?_; try simp [hnt, Try.ntmps100, Try.results100, anW100100, dProd, dSym, hl, hlt, hx', hy', hne, hne'])
          | (refine callP_wk (hs) ?_ ?_; (· (simp; done)); try simp [hnt, Try.ntmps100, Try.results100, anW100100, dProd, dSym, hl, hlt, hx', hy', hne, hne'])
          | (refine ⟨?_, ?_⟩; · omega)
          | omega
          | apply_assumption -exfalso -symm
          | (exfalso; omega)))
  · have hk' : k = q.body.length := by omega
    subst hk'
    have hrf : r = false := by
      rw [hcc, List.drop_of_length_le (by omega), List.drop_of_length_le (by omega)]
      simp [cmpL]
    (repeat (first
        | (refine DW_seq fun K hK => ?_)
        | (refine DW_r anW100100 Try.mixed (by kernel_rfl) ?_; simp [hnt, Try.ntmps100, Try.results100, anW100100, dProd, hl, hrf]; try simp (disch := omega) only [wrap64_in])
        | (refine DW_block ?_)
        | (focus (refine DW_if ?_ ?_ ?_; (· (simp [hnt, Try.ntmps100, Try.results100, anW100100, dProd, hl, hrf]; done)); (try (rotate_left; (· (intro hc; (try simp [hnt, Try.ntmps100, Try.results100, anW100100, dProd, hl, hrf] at hc); done))))))
        | (refine DW_ret ?_; simp [hnt, Try.ntmps100, Try.results100, anW100100, dProd, hl, hrf])
        | (refine DW_exit ?_; simp [hnt, Try.ntmps100, Try.results100, anW100100, dProd, hl, hrf])
        | (refine DW_skip ?_; simp [hnt, Try.ntmps100, Try.results100, anW100100, dProd, hl, hrf])
        | (intro hc; (try simp [hnt, Try.ntmps100, Try.results100, anW100100, dProd, hl, hrf] at hc); done)
        | (intro hc; (try simp [hnt, Try.ntmps100, Try.results100, anW100100, dProd, hl, hrf] at hc); (first | (exfalso; omega) | skip))
        | (refine ⟨?_, ?_⟩; · omega)
        | omega
        | apply_assumption -exfalso -symm
        | (exfalso; omega)))
end Go.Proofs.Ytihkcegelghcpaa
end

section
/- A part of a proof: walks over the functions that it names; their contracts hold for every argument. -/


set_option linter.unusedSimpArgs false
set_option linter.unusedVariables false
namespace Go.Proofs.Ytihkcegelghcpaa
open Go Go.Dm
attribute [local irreducible] DW callP callS
set_option maxRecDepth 100000

def anW5858 : Ann := ⟨[], []⟩
set_option maxHeartbeats 4000000 in
theorem insert_pure (l : List Prod) (p : Prod) (hsz : (l.length + 1) * 32 ≤ 150000000000000) : DPure Try.prog 58 [dProds l, .agg (dProd p)] (dProds (insC prodC l p)) := by
  refine DPure_introF [50] (fn := Try.f58) Try.func58 rfl Try.call58 (by simp [Try.ntmps58]) (by simp [mx]) ?_
  intro hwf B hnt
  have hw : wProds l := w_prods hwf.1
  obtain ⟨_, hw2, hw3⟩ := hw
  clear hwf
  simp only [argS]
  obtain ⟨r, hr⟩ : ∃ r, r = insC prodC l p := ⟨_, rfl⟩
  rw [← hr]
  (repeat (first
      | (refine DW_seq fun K hK => ?_)
      | (refine DW_r anW5858 Try.mixed (by kernel_rfl) ?_; simp [hnt, Try.ntmps58, Try.results58, anW5858, dProd]; try simp (disch := omega) only [wrap64_in])
      | (refine DW_block ?_)
      | (focus (refine DW_if ?_ ?_ ?_; (· (simp [hnt, Try.ntmps58, Try.results58, anW5858, dProd]; done)); (try (rotate_left; (· (intro hc; (try simp [hnt, Try.ntmps58, Try.results58, anW5858, dProd] at hc); done))))))
      | (refine DW_ret ?_; simp [hnt, Try.ntmps58, Try.results58, anW5858, dProd])
      | (refine DW_exit ?_; simp [hnt, Try.ntmps58, Try.results58, anW5858, dProd])
      | (refine DW_skip ?_; simp [hnt, Try.ntmps58, Try.results58, anW5858, dProd])
      | (intro hc; (try simp [hnt, Try.ntmps58, Try.results58, anW5858, dProd] at hc); done)
      | (intro hc; (try simp [hnt, Try.ntmps58, Try.results58, anW5858, dProd] at hc); (first | (exfalso; omega) | skip))
      | (refine ⟨?_, ?_⟩; · omega)
      | omega
      | apply_assumption -exfalso -symm
      | (exfalso; omega)))
  refine DW_adoptS 5 50 33 2 32 (by simp [hnt, Try.ntmps58]) (fun n => ?_)
  refine DW_loop (X := {x : Nat × Bool × List Prod // x.1 ≤ l.length ∧ x.2.2.length ≤ x.1 + (if x.2.1 then 1 else 0) ∧ x.2.2 ++ (if x.2.1 then l.drop x.1 else insC prodC (l.drop x.1) p) = r}) (fun x => ⟨[(0, dProds l), (3, .ref (dProd p)), (5, .osl 50 1), (6, .bool x.1.2.1), (7, .int .i64 x.1.1)], [⟨50, 1, .row 33 2 32 (x.1.2.2.map dProd)⟩]⟩) (fun x => l.length - x.1.1) ⟨(0, false, []), by simp [hr]⟩ (Sub.lit (by simp [dProd])) ?_
  rintro ⟨⟨k, b, R⟩, hk, hR, hcc⟩
  simp only at hk hR hcc ⊢
  clear hr
  by_cases hlt : k < l.length
  · obtain ⟨q, hq, hq', hqm⟩ := at_lt' hlt
    rw [List.drop_eq_getElem_cons hlt, hq'] at hcc
    have h1 := less_pure q p
    have h2 := less_pure p q
    simp only [dProd] at h1 h2
    cases b
    · simp only [Bool.false_eq_true, if_false, insC, Nat.add_zero] at hR hcc
      have hz1 : (R.length + 1) * 32 ≤ 150000000000000 := Nat.le_trans (Nat.mul_le_mul_right 32 (by omega)) hsz
      have hz2 : R.length ≤ 9223372036854775806 := by omega
      have hz3 : (R.length + 1 + 1) * 32 ≤ 150000000000000 := Nat.le_trans (Nat.mul_le_mul_right 32 (by omega)) hsz
      have hz4 : R.length + 1 ≤ 9223372036854775806 := by omega
      by_cases c1 : prodC q p < 0
      · rw [if_pos c1] at hcc
        simp only [c1, decide_true] at h1
        (repeat (first
            | (refine DW_seq fun K hK => ?_)
            | (refine DW_r anW5858 Try.mixed (by kernel_rfl) ?_; simp [hnt, Try.ntmps58, Try.results58, anW5858, dProd, hlt, hq', hz1, hz2, hz3, hz4]; try simp (disch := omega) only [wrap64_in])
            | (refine DW_block ?_)
            | (focus (refine DW_if ?_ ?_ ?_; (· (simp [hnt, Try.ntmps58, Try.results58, anW5858, dProd, hlt, hq', hz1, hz2, hz3, hz4]; done)); (try (rotate_left; (· (intro hc; (try simp [hnt, Try.ntmps58, Try.results58, anW5858, dProd, hlt, hq', hz1, hz2, hz3, hz4] at hc); done))))))
            | (refine DW_ret ?_; simp [hnt, Try.ntmps58, Try.results58, anW5858, dProd, hlt, hq', hz1, hz2, hz3, hz4])
            | (refine DW_exit ?_; simp [hnt, Try.ntmps58, Try.results58, anW5858, dProd, hlt, hq', hz1, hz2, hz3, hz4])
            | (refine DW_skip ?_; simp [hnt, Try.ntmps58, Try.results58, anW5858, dProd, hlt, hq', hz1, hz2, hz3, hz4])
            | (intro hc; (try simp [hnt, Try.ntmps58, Try.results58, anW5858, dProd, hlt, hq', hz1, hz2, hz3, hz4] at hc); done)
            | (intro hc; (try simp [hnt, Try.ntmps58, Try.results58, anW5858, dProd, hlt, hq', hz1, hz2, hz3, hz4] at hc); (first | (exfalso; omega) | skip))
            | (refine callP_mk (h1) ?_; try simp [hnt, Try.ntmps58, Try.results58, anW5858, dProd, hlt, hq', hz1, hz2, hz3, hz4])
            | (refine callP_wk (h1) ?_ ?_; (· (simp; done)); try simp [hnt, Try.ntmps58, Try.results58, anW5858, dProd, hlt, hq', hz1, hz2, hz3, hz4])
            | (refine callP_mk (h2) ?_; try simp [hnt, Try.ntmps58, Try.results58, anW5858, dProd, hlt, hq', hz1, hz2, hz3, hz4])
            | (refine callP_wk (h2) ?_ ?_; (· (simp; done)); try simp [hnt, Try.ntmps58, Try.results58, anW5858, dProd, hlt, hq', hz1, hz2, hz3, hz4])
            | (refine ⟨?_, ?_⟩; · omega)
            | omega
            | apply_assumption -exfalso -symm
            | (exfalso; omega)))
        refine Again.mk ⟨(k + 1, false, R ++ [q]), show k + 1 ≤ l.length ∧ (R ++ [q]).length ≤ k + 1 + _ ∧ _ from ⟨by omega, by simp; omega, by simpa using hcc⟩⟩ (Sub.lit (by simp [dProd])) (by simp; omega)
        (repeat (first
            | (refine DW_seq fun K hK => ?_)
            | (refine DW_r anW5858 Try.mixed (by kernel_rfl) ?_; simp [hnt, Try.ntmps58, Try.results58, anW5858]; try simp (disch := omega) only [wrap64_in])
            | (refine DW_block ?_)
            | (focus (refine DW_if ?_ ?_ ?_; (· (simp [hnt, Try.ntmps58, Try.results58, anW5858]; done)); (try (rotate_left; (· (intro hc; (try simp [hnt, Try.ntmps58, Try.results58, anW5858] at hc); done))))))
            | (refine DW_ret ?_; simp [hnt, Try.ntmps58, Try.results58, anW5858])
            | (refine DW_exit ?_; simp [hnt, Try.ntmps58, Try.results58, anW5858])
            | (refine DW_skip ?_; simp [hnt, Try.ntmps58, Try.results58, anW5858])
            | (intro hc; (try simp [hnt, Try.ntmps58, Try.results58, anW5858] at hc); done)
            | (intro hc; (try simp [hnt, Try.ntmps58, Try.results58, anW5858] at hc); (first | (exfalso; omega) | skip))
            | (refine callP_mk (h1) ?_; try simp [hnt, Try.ntmps58, Try.results58, anW5858])
            | (refine callP_wk (h1) ?_ ?_; (· (simp; done)); try simp [hnt, Try.ntmps58, Try.results58, anW5858])
            | (refine callP_mk (h2) ?_; try simp [hnt, Try.ntmps58, Try.results58, anW5858])
            | (refine callP_wk (h2) ?_ ?_; (· (simp; done)); try simp [hnt, Try.ntmps58, Try.results58, anW5858])
            | (refine ⟨?_, ?_⟩; · omega)
            | omega
            | apply_assumption -exfalso -symm
            | (exfalso; omega)))
      · rw [if_neg c1] at hcc
        simp only [c1, decide_false] at h1
        by_cases c2 : prodC p q < 0
        · rw [if_pos c2] at hcc
          simp only [c2, decide_true] at h2
          (repeat (first
              | (refine DW_seq fun K hK => ?_)
              | (refine DW_r anW5858 Try.mixed (by kernel_rfl) ?_; simp [hnt, Try.ntmps58, Try.results58, anW5858, dProd, hlt, hq', hz1, hz2, hz3, hz4]; try simp (disch := omega) only [wrap64_in])
              | (refine DW_block ?_)
              | (focus (refine DW_if ?_ ?_ ?_; (· (simp [hnt, Try.ntmps58, Try.results58, anW5858, dProd, hlt, hq', hz1, hz2, hz3, hz4]; done)); (try (rotate_left; (· (intro hc; (try simp [hnt, Try.ntmps58, Try.results58, anW5858, dProd, hlt, hq', hz1, hz2, hz3, hz4] at hc); done))))))
              | (refine DW_ret ?_; simp [hnt, Try.ntmps58, Try.results58, anW5858, dProd, hlt, hq', hz1, hz2, hz3, hz4])
              | (refine DW_exit ?_; simp [hnt, Try.ntmps58, Try.results58, anW5858, dProd, hlt, hq', hz1, hz2, hz3, hz4])
              | (refine DW_skip ?_; simp [hnt, Try.ntmps58, Try.results58, anW5858, dProd, hlt, hq', hz1, hz2, hz3, hz4])
              | (intro hc; (try simp [hnt, Try.ntmps58, Try.results58, anW5858, dProd, hlt, hq', hz1, hz2, hz3, hz4] at hc); done)
              | (intro hc; (try simp [hnt, Try.ntmps58, Try.results58, anW5858, dProd, hlt, hq', hz1, hz2, hz3, hz4] at hc); (first | (exfalso; omega) | skip))
              | (refine callP_mk (h1) ?_; try simp [hnt, Try.ntmps58, Try.results58, anW5858, dProd, hlt, hq', hz1, hz2, hz3, hz4])
              | (refine callP_wk (h1) ?_ ?_; (· (simp; done)); try simp [hnt, Try.ntmps58, Try.results58, anW5858, dProd, hlt, hq', hz1, hz2, hz3, hz4])
              | (refine callP_mk (h2) ?_; try simp [hnt, Try.ntmps58, Try.results58, anW5858, dProd, hlt, hq', hz1, hz2, hz3, hz4])
              | (refine callP_wk (h2) ?_ ?_; (· (simp; done)); try simp [hnt, Try.ntmps58, Try.results58, anW5858, dProd, hlt, hq', hz1, hz2, hz3, hz4])
              | (refine ⟨?_, ?_⟩; · omega)
              | omega
              | apply_assumption -exfalso -symm
              | (exfalso; omega)))
          refine Again.mk ⟨(k + 1, true, R ++ [p, q]), show k + 1 ≤ l.length ∧ (R ++ [p, q]).length ≤ k + 1 + _ ∧ _ from ⟨by omega, by simp; omega, by simpa using hcc⟩⟩ (Sub.lit (by simp [dProd])) (by simp; omega)
          (repeat (first
              | (refine DW_seq fun K hK => ?_)
              | (refine DW_r anW5858 Try.mixed (by kernel_rfl) ?_; simp [hnt, Try.ntmps58, Try.results58, anW5858]; try simp (disch := omega) only [wrap64_in])
              | (refine DW_block ?_)
              | (focus (refine DW_if ?_ ?_ ?_; (· (simp [hnt, Try.ntmps58, Try.results58, anW5858]; done)); (try (rotate_left; (· (intro hc; (try simp [hnt, Try.ntmps58, Try.results58, anW5858] at hc); done))))))
              | (refine DW_ret ?_; simp [hnt, Try.ntmps58, Try.results58, anW5858])
              | (refine DW_exit ?_; simp [hnt, Try.ntmps58, Try.results58, anW5858])
              | (refine DW_skip ?_; simp [hnt, Try.ntmps58, Try.results58, anW5858])
              | (intro hc; (try simp [hnt, Try.ntmps58, Try.results58, anW5858] at hc); done)
              | (intro hc; (try simp [hnt, Try.ntmps58, Try.results58, anW5858] at hc); (first | (exfalso; omega) | skip))
              | (refine callP_mk (h1) ?_; try simp [hnt, Try.ntmps58, Try.results58, anW5858])
              | (refine callP_wk (h1) ?_ ?_; (· (simp; done)); try simp [hnt, Try.ntmps58, Try.results58, anW5858])
              | (refine callP_mk (h2) ?_; try simp [hnt, Try.ntmps58, Try.results58, anW5858])
              | (refine callP_wk (h2) ?_ ?_; (· (simp; done)); try simp [hnt, Try.ntmps58, Try.results58, anW5858])
              | (refine ⟨?_, ?_⟩; · omega)
              | omega
              | apply_assumption -exfalso -symm
              | (exfalso; omega)))
        · rw [if_neg c2] at hcc
          simp only [c2, decide_false] at h2
          (repeat (first
              | (refine DW_seq fun K hK => ?_)
              | (refine DW_r anW5858 Try.mixed (by kernel_rfl) ?_; simp [hnt, Try.ntmps58, Try.results58, anW5858, dProd, hlt, hq', hz1, hz2, hz3, hz4]; try simp (disch := omega) only [wrap64_in])
              | (refine DW_block ?_)
              | (focus (refine DW_if ?_ ?_ ?_; (· (simp [hnt, Try.ntmps58, Try.results58, anW5858, dProd, hlt, hq', hz1, hz2, hz3, hz4]; done)); (try (rotate_left; (· (intro hc; (try simp [hnt, Try.ntmps58, Try.results58, anW5858, dProd, hlt, hq', hz1, hz2, hz3, hz4] at hc); done))))))
              | (refine DW_ret ?_; simp [hnt, Try.ntmps58, Try.results58, anW5858, dProd, hlt, hq', hz1, hz2, hz3, hz4])
              | (refine DW_exit ?_; simp [hnt, Try.ntmps58, Try.results58, anW5858, dProd, hlt, hq', hz1, hz2, hz3, hz4])
              | (refine DW_skip ?_; simp [hnt, Try.ntmps58, Try.results58, anW5858, dProd, hlt, hq', hz1, hz2, hz3, hz4])
              | (intro hc; (try simp [hnt, Try.ntmps58, Try.results58, anW5858, dProd, hlt, hq', hz1, hz2, hz3, hz4] at hc); done)
              | (intro hc; (try simp [hnt, Try.ntmps58, Try.results58, anW5858, dProd, hlt, hq', hz1, hz2, hz3, hz4] at hc); (first | (exfalso; omega) | skip))
              | (refine callP_mk (h1) ?_; try simp [hnt, Try.ntmps58, Try.results58, anW5858, dProd, hlt, hq', hz1, hz2, hz3, hz4])
              | (refine callP_wk (h1) ?_ ?_; (· (simp; done)); try simp [hnt, Try.ntmps58, Try.results58, anW5858, dProd, hlt, hq', hz1, hz2, hz3, hz4])
              | (refine callP_mk (h2) ?_; try simp [hnt, Try.ntmps58, Try.results58, anW5858, dProd, hlt, hq', hz1, hz2, hz3, hz4])
              | (refine callP_wk (h2) ?_ ?_; (· (simp; done)); try simp [hnt, Try.ntmps58, Try.results58, anW5858, dProd, hlt, hq', hz1, hz2, hz3, hz4])
              | (refine ⟨?_, ?_⟩; · omega)
              | omega
              | apply_assumption -exfalso -symm
              | (exfalso; omega)))
          refine Again.mk ⟨(k + 1, true, R ++ [q]), show k + 1 ≤ l.length ∧ (R ++ [q]).length ≤ k + 1 + _ ∧ _ from ⟨by omega, by simp; omega, by simpa using hcc⟩⟩ (Sub.lit (by simp [dProd])) (by simp; omega)
          (repeat (first
              | (refine DW_seq fun K hK => ?_)
              | (refine DW_r anW5858 Try.mixed (by kernel_rfl) ?_; simp [hnt, Try.ntmps58, Try.results58, anW5858]; try simp (disch := omega) only [wrap64_in])
              | (refine DW_block ?_)
              | (focus (refine DW_if ?_ ?_ ?_; (· (simp [hnt, Try.ntmps58, Try.results58, anW5858]; done)); (try (rotate_left; (· (intro hc; (try simp [hnt, Try.ntmps58, Try.results58, anW5858] at hc); done))))))
              | (refine DW_ret ?_; simp [hnt, Try.ntmps58, Try.results58, anW5858])
              | (refine DW_exit ?_; simp [hnt, Try.ntmps58, Try.results58, anW5858])
              | (refine DW_skip ?_; simp [hnt, Try.ntmps58, Try.results58, anW5858])
              | (intro hc; (try simp [hnt, Try.ntmps58, Try.results58, anW5858] at hc); done)
              | (intro hc; (try simp [hnt, Try.ntmps58, Try.results58, anW5858] at hc); (first | (exfalso; omega) | skip))
              | (refine callP_mk (h1) ?_; try simp [hnt, Try.ntmps58, Try.results58, anW5858])
              | (refine callP_wk (h1) ?_ ?_; (· (simp; done)); try simp [hnt, Try.ntmps58, Try.results58, anW5858])
              | (refine callP_mk (h2) ?_; try simp [hnt, Try.ntmps58, Try.results58, anW5858])
              | (refine callP_wk (h2) ?_ ?_; (· (simp; done)); try simp [hnt, Try.ntmps58, Try.results58, anW5858])
              | (refine ⟨?_, ?_⟩; · omega)
              | omega
              | apply_assumption -exfalso -symm
              | (exfalso; omega)))
    · simp only [if_true] at hR hcc
      have hz1 : (R.length + 1) * 32 ≤ 150000000000000 := Nat.le_trans (Nat.mul_le_mul_right 32 (by omega)) hsz
      have hz2 : R.length ≤ 9223372036854775806 := by omega
      (repeat (first
          | (refine DW_seq fun K hK => ?_)
          | (refine DW_r anW5858 Try.mixed (by kernel_rfl) ?_; simp [hnt, Try.ntmps58, Try.results58, anW5858, dProd, hlt, hq', hz1, hz2]; try simp (disch := omega) only [wrap64_in])
          | (refine DW_block ?_)
          | (focus (refine DW_if ?_ ?_ ?_; (· (simp [hnt, Try.ntmps58, Try.results58, anW5858, dProd, hlt, hq', hz1, hz2]; done)); (try (rotate_left; (· (intro hc; (try simp [hnt, Try.ntmps58, Try.results58, anW5858, dProd, hlt, hq', hz1, hz2] at hc); done))))))
          | (refine DW_ret ?_; simp [hnt, Try.ntmps58, Try.results58, anW5858, dProd, hlt, hq', hz1, hz2])
          | (refine DW_exit ?_; simp [hnt, Try.ntmps58, Try.results58, anW5858, dProd, hlt, hq', hz1, hz2])
          | (refine DW_skip ?_; simp [hnt, Try.ntmps58, Try.results58, anW5858, dProd, hlt, hq', hz1, hz2])
          | (intro hc; (try simp [hnt, Try.ntmps58, Try.results58, anW5858, dProd, hlt, hq', hz1, hz2] at hc); done)
          | (intro hc; (try simp [hnt, Try.ntmps58, Try.results58, anW5858, dProd, hlt, hq', hz1, hz2] at hc); (first | (exfalso; omega) | skip))
          | (refine callP_mk (h1) ?_; try simp [hnt, Try.ntmps58, Try.results58, anW5858, dProd, hlt, hq', hz1, hz2])
          | (refine callP_wk (h1) ?_ ?_; (· (simp; done)); try simp [hnt, Try.ntmps58, Try.results58, anW5858, dProd, hlt, hq', hz1, hz2])
          | (refine callP_mk (h2) ?_; try simp [hnt, Try.ntmps58, Try.results58, anW5858, dProd, hlt, hq', hz1, hz2])
          | (refine callP_wk (h2) ?_ ?_; (· (simp; done)); try simp [hnt, Try.ntmps58, Try.results58, anW5858, dProd, hlt, hq', hz1, hz2])
          | (refine ⟨?_, ?_⟩; · omega)
          | omega
          | apply_assumption -exfalso -symm
          | (exfalso; omega)))
      refine Again.mk ⟨(k + 1, true, R ++ [q]), show k + 1 ≤ l.length ∧ (R ++ [q]).length ≤ k + 1 + _ ∧ _ from ⟨by omega, by simp; omega, by simpa using hcc⟩⟩ (Sub.lit (by simp [dProd])) (by simp; omega)
      (repeat (first
          | (refine DW_seq fun K hK => ?_)
          | (refine DW_r anW5858 Try.mixed (by kernel_rfl) ?_; simp [hnt, Try.ntmps58, Try.results58, anW5858]; try simp (disch := omega) only [wrap64_in])
          | (refine DW_block ?_)
          | (focus (refine DW_if ?_ ?_ ?_; (· (simp [hnt, Try.ntmps58, Try.results58, anW5858]; done)); (try (rotate_left; (· (intro hc; (try simp [hnt, Try.ntmps58, Try.results58, anW5858] at hc); done))))))
          | (refine DW_ret ?_; simp [hnt, Try.ntmps58, Try.results58, anW5858])
          | (refine DW_exit ?_; simp [hnt, Try.ntmps58, Try.results58, anW5858])
          | (refine DW_skip ?_; simp [hnt, Try.ntmps58, Try.results58, anW5858])
          | (intro hc; (try simp [hnt, Try.ntmps58, Try.results58, anW5858] at hc); done)
          | (intro hc; (try simp [hnt, Try.ntmps58, Try.results58, anW5858] at hc); (first | (exfalso; omega) | skip))
          | (refine callP_mk (h1) ?_; try simp [hnt, Try.ntmps58, Try.results58, anW5858])
          | (refine callP_wk (h1) ?_ ?_; (· (simp; done)); try simp [hnt, Try.ntmps58, Try.results58, anW5858])
          | (refine callP_mk (h2) ?_; try simp [hnt, Try.ntmps58, Try.results58, anW5858])
          | (refine callP_wk (h2) ?_ ?_; (· (simp; done)); try simp [hnt, Try.ntmps58, Try.results58, anW5858])
          | (refine ⟨?_, ?_⟩; · omega)
          | omega
          | apply_assumption -exfalso -symm
          | (exfalso; omega)))
  · have hk' : k = l.length := by omega
    subst hk'
    rw [List.drop_length] at hcc
    cases b
    · simp only [Bool.false_eq_true, if_false, insC, Nat.add_zero] at hR hcc
      subst hcc
      have hz1 : (R.length + 1) * 32 ≤ 150000000000000 := Nat.le_trans (Nat.mul_le_mul_right 32 (by omega)) hsz
      have hz2 : R.length ≤ 9223372036854775806 := by omega
      (repeat (first
          | (refine DW_seq fun K hK => ?_)
          | (refine DW_r anW5858 Try.mixed (by kernel_rfl) ?_; simp [hnt, Try.ntmps58, Try.results58, anW5858, dProd, hz1, hz2]; try simp (disch := omega) only [wrap64_in])
          | (refine DW_block ?_)
          | (focus (refine DW_if ?_ ?_ ?_; (· (simp [hnt, Try.ntmps58, Try.results58, anW5858, dProd, hz1, hz2]; done)); (try (rotate_left; (· (intro hc; (try simp [hnt, Try.ntmps58, Try.results58, anW5858, dProd, hz1, hz2] at hc); done))))))
          | (refine DW_ret ?_; simp [hnt, Try.ntmps58, Try.results58, anW5858, dProd, hz1, hz2])
          | (refine DW_exit ?_; simp [hnt, Try.ntmps58, Try.results58, anW5858, dProd, hz1, hz2])
          | (refine DW_skip ?_; simp [hnt, Try.ntmps58, Try.results58, anW5858, dProd, hz1, hz2])
          | (intro hc; (try simp [hnt, Try.ntmps58, Try.results58, anW5858, dProd, hz1, hz2] at hc); done)
          | (intro hc; (try simp [hnt, Try.ntmps58, Try.results58, anW5858, dProd, hz1, hz2] at hc); (first | (exfalso; omega) | skip))
          | (refine ⟨?_, ?_⟩; · omega)
          | omega
          | apply_assumption -exfalso -symm
          | (exfalso; omega)))
    · simp only [if_true, List.append_nil] at hR hcc
      subst hcc
      (repeat (first
          | (refine DW_seq fun K hK => ?_)
          | (refine DW_r anW5858 Try.mixed (by kernel_rfl) ?_; simp [hnt, Try.ntmps58, Try.results58, anW5858, dProd]; try simp (disch := omega) only [wrap64_in])
          | (refine DW_block ?_)
          | (focus (refine DW_if ?_ ?_ ?_; (· (simp [hnt, Try.ntmps58, Try.results58, anW5858, dProd]; done)); (try (rotate_left; (· (intro hc; (try simp [hnt, Try.ntmps58, Try.results58, anW5858, dProd] at hc); done))))))
          | (refine DW_ret ?_; simp [hnt, Try.ntmps58, Try.results58, anW5858, dProd])
          | (refine DW_exit ?_; simp [hnt, Try.ntmps58, Try.results58, anW5858, dProd])
          | (refine DW_skip ?_; simp [hnt, Try.ntmps58, Try.results58, anW5858, dProd])
          | (intro hc; (try simp [hnt, Try.ntmps58, Try.results58, anW5858, dProd] at hc); done)
          | (intro hc; (try simp [hnt, Try.ntmps58, Try.results58, anW5858, dProd] at hc); (first | (exfalso; omega) | skip))
          | (refine ⟨?_, ?_⟩; · omega)
          | omega
          | apply_assumption -exfalso -symm
          | (exfalso; omega)))
end Go.Proofs.Ytihkcegelghcpaa
end

section
/- A part of a proof: walks over the functions that it names; their contracts hold for every argument. -/

set_option linter.unusedSimpArgs false
set_option linter.unusedVariables false
namespace Go.Proofs.Ytihkcegelghcpaa
open Go Go.Dm
attribute [local irreducible] DW callP callS
set_option maxRecDepth 100000

def rowN (l : List Prod) : DVal := if l = [] then .nilsl else dProds l
@[local simp] theorem mx_rowN (l : List Prod) : mx (rowN l) = 0 := by unfold rowN; split <;> simp [mx]
theorem insC_len {l : List Prod} {p : Prod} : (insC prodC l p).length ≤ l.length + 1 := by
  induction l with
  | nil => simp [insC]
  | cons x l ih => simp only [insC]; split <;> (try split) <;> simp <;> omega
theorem fold_len (l : List Prod) (a : List Prod) : (l.foldl (insC prodC) a).length ≤ a.length + l.length := by
  induction l generalizing a with
  | nil => simp
  | cons x l ih => have h1 := ih (insC prodC a x); have h2 := insC_len (l := a) (p := x); simp only [List.foldl_cons, List.length_cons]; omega
theorem insert_pureN (l : List Prod) (p : Prod) (hsz : (l.length + 1) * 32 ≤ 150000000000000) : DPure Try.prog 58 [rowN l, .agg (dProd p)] (rowN (insC prodC l p)) := by
  have h := insert_pure l p hsz
  unfold rowN
  rw [if_neg (insC_ne l p)]
  split
  · rename_i h0
    subst h0
    refine ⟨h.1, h.2.1, fun cur M w vs hM hr => h.2.2 cur M w vs hM (rd_wkA ?_ hr)⟩
    simp only [wkA]
    exact ⟨by simp [dProds], wk_refl _, trivial⟩
  · exact h
theorem rowN_cases (l : List Prod) : rowN l = .nilsl ∨ ∃ m, rowN l = dProds m := by
  unfold rowN
  split
  · exact .inl rfl
  · exact .inr ⟨_, rfl⟩

def anW2929 : Ann := ⟨[], []⟩
set_option maxHeartbeats 4000000 in
theorem rsorted_pure (c : Cnf) : DPure Try.prog 29 [.agg (dCnf c)] (.agg (dCnf ⟨c.nts, c.prods.foldl (insC prodC) []⟩)) := by
  have key : DPure Try.prog 29 [.agg (dCnf c)] (.agg [.int .i64 c.nts, rowN (c.prods.foldl (insC prodC) [])]) := by
    refine DPure_introF [] (fn := Try.f29) Try.func29 rfl Try.call29 (by simp [Try.ntmps29]) (by simp [mx]) ?_
    intro hwf B hnt
    have hw : wCnf c := w_cnf (by simpa [wfL, wfD] using hwf.1)
    obtain ⟨hw1, hw2, hw3, hw4⟩ := hw
    clear hwf
    simp only [argS]
    (repeat (first
        | (refine DW_seq fun K hK => ?_)
        | (refine DW_r anW2929 Try.mixed (by kernel_rfl) ?_; simp [hnt, Try.ntmps29, Try.results29, anW2929, dCnf]; try simp (disch := omega) only [wrap64_in])
        | (refine DW_block ?_)
        | (focus (refine DW_if ?_ ?_ ?_; (· (simp [hnt, Try.ntmps29, Try.results29, anW2929, dCnf]; done)); (try (rotate_left; (· (intro hc; (try simp [hnt, Try.ntmps29, Try.results29, anW2929, dCnf] at hc); done))))))
        | (refine DW_ret ?_; simp [hnt, Try.ntmps29, Try.results29, anW2929, dCnf])
        | (refine DW_exit ?_; simp [hnt, Try.ntmps29, Try.results29, anW2929, dCnf])
        | (refine DW_skip ?_; simp [hnt, Try.ntmps29, Try.results29, anW2929, dCnf])
        | (intro hc; (try simp [hnt, Try.ntmps29, Try.results29, anW2929, dCnf] at hc); done)
        | (intro hc; (try simp [hnt, Try.ntmps29, Try.results29, anW2929, dCnf] at hc); (first | (exfalso; omega) | skip))
        | (refine ⟨?_, ?_⟩; · omega)
        | omega
        | apply_assumption -exfalso -symm
        | (exfalso; omega)))
    refine DW_loop (X := {k : Nat // k ≤ c.prods.length}) (fun k => ⟨[(1, .ref (dCnf c)), (2, .bx 2 1 0), (3, .bx 3 1 0), (4, .int .i64 k.1)], [⟨2, 1, .box [.int .i64 0, .nilsl]⟩, ⟨3, 1, .box [.int .i64 c.nts, rowN ((c.prods.take k.1).foldl (insC prodC) [])]⟩]⟩) (fun k => c.prods.length - k.1) ⟨0, by simp⟩ (Sub.lit (by simp [dCnf, rowN])) ?_
    rintro ⟨k, hk⟩
    by_cases hlt : k < c.prods.length
    · obtain ⟨p, hp, hp', hpm⟩ := at_lt' hlt
      have hfl := fold_len (c.prods.take k) []
      rw [List.length_take, List.length_nil] at hfl
      have h1 := insert_pureN ((c.prods.take k).foldl (insC prodC) []) p (Nat.le_trans (Nat.mul_le_mul_right 32 (by omega)) hw2)
      have htk : (c.prods.take (k + 1)).foldl (insC prodC) [] = insC prodC ((c.prods.take k).foldl (insC prodC) []) p := by
        rw [List.take_add_one, hp]; simp [List.foldl_append]
      simp only [dProd] at h1
      have hA' : rowN (insC prodC ((c.prods.take k).foldl (insC prodC) []) p) = dProds (insC prodC ((c.prods.take k).foldl (insC prodC) []) p) := by unfold rowN; rw [if_neg (insC_ne _ _)]
      rw [hA'] at h1
      obtain ⟨Y, hY⟩ : ∃ Y, Y = insC prodC ((c.prods.take k).foldl (insC prodC) []) p := ⟨_, rfl⟩
      rw [← hY] at h1 hA'
      rcases rowN_cases ((c.prods.take k).foldl (insC prodC) []) with hA | ⟨Z, hA⟩
      · rw [hA] at h1
        rw [hA]
        (repeat (first
            | (refine DW_seq fun K hK => ?_)
            | (refine DW_r anW2929 Try.mixed (by kernel_rfl) ?_; simp [hnt, Try.ntmps29, Try.results29, anW2929, dCnf, dProd, hlt, hp']; try simp (disch := omega) only [wrap64_in])
            | (refine DW_block ?_)
            | (focus (refine DW_if ?_ ?_ ?_; (· (simp [hnt, Try.ntmps29, Try.results29, anW2929, dCnf, dProd, hlt, hp']; done)); (try (rotate_left; (· (intro hc; (try simp [hnt, Try.ntmps29, Try.results29, anW2929, dCnf, dProd, hlt, hp'] at hc); done))))))
            | (refine DW_ret ?_; simp [hnt, Try.ntmps29, Try.results29, anW2929, dCnf, dProd, hlt, hp'])
            | (refine DW_exit ?_; simp [hnt, Try.ntmps29, Try.results29, anW2929, dCnf, dProd, hlt, hp'])
            | (refine DW_skip ?_; simp [hnt, Try.ntmps29, Try.results29, anW2929, dCnf, dProd, hlt, hp'])
            | (intro hc; (try simp [hnt, Try.ntmps29, Try.results29, anW2929, dCnf, dProd, hlt, hp'] at hc); done)
            | (intro hc; (try simp [hnt, Try.ntmps29, Try.results29, anW2929, dCnf, dProd, hlt, hp'] at hc); (first | (exfalso; omega) | skip))
            | (refine callP_mk (h1) ?_; try simp [hnt, Try.ntmps29, Try.results29, anW2929, dCnf, dProd, hlt, hp'])
            | (refine callP_wk (h1) ?_ ?_; (· (simp; done)); try simp [hnt, Try.ntmps29, Try.results29, anW2929, dCnf, dProd, hlt, hp'])
            | (refine ⟨?_, ?_⟩; · omega)
            | omega
            | apply_assumption -exfalso -symm
            | (exfalso; omega)))
        refine Again.mk ⟨k + 1, by omega⟩ (Sub.lit (by simp [htk, ← hY, hA'])) (by simp; omega)
        (repeat (first
            | (refine DW_seq fun K hK => ?_)
            | (refine DW_r anW2929 Try.mixed (by kernel_rfl) ?_; simp [hnt, Try.ntmps29, Try.results29, anW2929]; try simp (disch := omega) only [wrap64_in])
            | (refine DW_block ?_)
            | (focus (refine DW_if ?_ ?_ ?_; (· (simp [hnt, Try.ntmps29, Try.results29, anW2929]; done)); (try (rotate_left; (· (intro hc; (try simp [hnt, Try.ntmps29, Try.results29, anW2929] at hc); done))))))
            | (refine DW_ret ?_; simp [hnt, Try.ntmps29, Try.results29, anW2929])
            | (refine DW_exit ?_; simp [hnt, Try.ntmps29, Try.results29, anW2929])
            | (refine DW_skip ?_; simp [hnt, Try.ntmps29, Try.results29, anW2929])
            | (intro hc; (try simp [hnt, Try.ntmps29, Try.results29, anW2929] at hc); done)
            | (intro hc; (try simp [hnt, Try.ntmps29, Try.results29, anW2929] at hc); (first | (exfalso; omega) | skip))
            | (refine callP_mk (h1) ?_; try simp [hnt, Try.ntmps29, Try.results29, anW2929])
            | (refine callP_wk (h1) ?_ ?_; (· (simp; done)); try simp [hnt, Try.ntmps29, Try.results29, anW2929])
            | (refine ⟨?_, ?_⟩; · omega)
            | omega
            | apply_assumption -exfalso -symm
            | (exfalso; omega)))
      · rw [hA] at h1
        rw [hA]
        (repeat (first
            | (refine DW_seq fun K hK => ?_)
            | (refine DW_r anW2929 Try.mixed (by kernel_rfl) ?_; simp [hnt, Try.ntmps29, Try.results29, anW2929, dCnf, dProd, hlt, hp']; try simp (disch := omega) only [wrap64_in])
            | (refine DW_block ?_)
            | (focus (refine DW_if ?_ ?_ ?_; (· (simp [hnt, Try.ntmps29, Try.results29, anW2929, dCnf, dProd, hlt, hp']; done)); (try (rotate_left; (· (intro hc; (try simp [hnt, Try.ntmps29, Try.results29, anW2929, dCnf, dProd, hlt, hp'] at hc); done))))))
            | (refine DW_ret ?_; simp [hnt, Try.ntmps29, Try.results29, anW2929, dCnf, dProd, hlt, hp'])
            | (refine DW_exit ?_; simp [hnt, Try.ntmps29, Try.results29, anW2929, dCnf, dProd, hlt, hp'])
            | (refine DW_skip ?_; simp [hnt, Try.ntmps29, Try.results29, anW2929, dCnf, dProd, hlt, hp'])
            | (intro hc; (try simp [hnt, Try.ntmps29, Try.results29, anW2929, dCnf, dProd, hlt, hp'] at hc); done)
            | (intro hc; (try simp [hnt, Try.ntmps29, Try.results29, anW2929, dCnf, dProd, hlt, hp'] at hc); (first | (exfalso; omega) | skip))
            | (refine callP_mk (h1) ?_; try simp [hnt, Try.ntmps29, Try.results29, anW2929, dCnf, dProd, hlt, hp'])
            | (refine callP_wk (h1) ?_ ?_; (· (simp; done)); try simp [hnt, Try.ntmps29, Try.results29, anW2929, dCnf, dProd, hlt, hp'])
            | (refine ⟨?_, ?_⟩; · omega)
            | omega
            | apply_assumption -exfalso -symm
            | (exfalso; omega)))
        refine Again.mk ⟨k + 1, by omega⟩ (Sub.lit (by simp [htk, ← hY, hA'])) (by simp; omega)
        (repeat (first
            | (refine DW_seq fun K hK => ?_)
            | (refine DW_r anW2929 Try.mixed (by kernel_rfl) ?_; simp [hnt, Try.ntmps29, Try.results29, anW2929]; try simp (disch := omega) only [wrap64_in])
            | (refine DW_block ?_)
            | (focus (refine DW_if ?_ ?_ ?_; (· (simp [hnt, Try.ntmps29, Try.results29, anW2929]; done)); (try (rotate_left; (· (intro hc; (try simp [hnt, Try.ntmps29, Try.results29, anW2929] at hc); done))))))
            | (refine DW_ret ?_; simp [hnt, Try.ntmps29, Try.results29, anW2929])
            | (refine DW_exit ?_; simp [hnt, Try.ntmps29, Try.results29, anW2929])
            | (refine DW_skip ?_; simp [hnt, Try.ntmps29, Try.results29, anW2929])
            | (intro hc; (try simp [hnt, Try.ntmps29, Try.results29, anW2929] at hc); done)
            | (intro hc; (try simp [hnt, Try.ntmps29, Try.results29, anW2929] at hc); (first | (exfalso; omega) | skip))
            | (refine callP_mk (h1) ?_; try simp [hnt, Try.ntmps29, Try.results29, anW2929])
            | (refine callP_wk (h1) ?_ ?_; (· (simp; done)); try simp [hnt, Try.ntmps29, Try.results29, anW2929])
            | (refine ⟨?_, ?_⟩; · omega)
            | omega
            | apply_assumption -exfalso -symm
            | (exfalso; omega)))
    · have hkk : k = c.prods.length := by omega
      subst hkk
      rw [List.take_length]
      rcases rowN_cases (c.prods.foldl (insC prodC) []) with hA | ⟨Z, hA⟩
      · rw [hA]
        (repeat (first
            | (refine DW_seq fun K hK => ?_)
            | (refine DW_r anW2929 Try.mixed (by kernel_rfl) ?_; simp [hnt, Try.ntmps29, Try.results29, anW2929, dCnf, hA]; try simp (disch := omega) only [wrap64_in])
            | (refine DW_block ?_)
            | (focus (refine DW_if ?_ ?_ ?_; (· (simp [hnt, Try.ntmps29, Try.results29, anW2929, dCnf, hA]; done)); (try (rotate_left; (· (intro hc; (try simp [hnt, Try.ntmps29, Try.results29, anW2929, dCnf, hA] at hc); done))))))
            | (refine DW_ret ?_; simp [hnt, Try.ntmps29, Try.results29, anW2929, dCnf, hA])
            | (refine DW_exit ?_; simp [hnt, Try.ntmps29, Try.results29, anW2929, dCnf, hA])
            | (refine DW_skip ?_; simp [hnt, Try.ntmps29, Try.results29, anW2929, dCnf, hA])
            | (intro hc; (try simp [hnt, Try.ntmps29, Try.results29, anW2929, dCnf, hA] at hc); done)
            | (intro hc; (try simp [hnt, Try.ntmps29, Try.results29, anW2929, dCnf, hA] at hc); (first | (exfalso; omega) | skip))
            | (refine ⟨?_, ?_⟩; · omega)
            | omega
            | apply_assumption -exfalso -symm
            | (exfalso; omega)))
      · rw [hA]
        (repeat (first
            | (refine DW_seq fun K hK => ?_)
            | (refine DW_r anW2929 Try.mixed (by kernel_rfl) ?_; simp [hnt, Try.ntmps29, Try.results29, anW2929, dCnf, hA]; try simp (disch := omega) only [wrap64_in])
            | (refine DW_block ?_)
            | (focus (refine DW_if ?_ ?_ ?_; (· (simp [hnt, Try.ntmps29, Try.results29, anW2929, dCnf, hA]; done)); (try (rotate_left; (· (intro hc; (try simp [hnt, Try.ntmps29, Try.results29, anW2929, dCnf, hA] at hc); done))))))
            | (refine DW_ret ?_; simp [hnt, Try.ntmps29, Try.results29, anW2929, dCnf, hA])
            | (refine DW_exit ?_; simp [hnt, Try.ntmps29, Try.results29, anW2929, dCnf, hA])
            | (refine DW_skip ?_; simp [hnt, Try.ntmps29, Try.results29, anW2929, dCnf, hA])
            | (intro hc; (try simp [hnt, Try.ntmps29, Try.results29, anW2929, dCnf, hA] at hc); done)
            | (intro hc; (try simp [hnt, Try.ntmps29, Try.results29, anW2929, dCnf, hA] at hc); (first | (exfalso; omega) | skip))
            | (refine ⟨?_, ?_⟩; · omega)
            | omega
            | apply_assumption -exfalso -symm
            | (exfalso; omega)))
  refine key.wk ?_ (by simp [mx, dCnf])
  simp only [dCnf, rowN]
  split
  · rename_i h0
    rw [h0]; simp [dProds]
  · simp
end Go.Proofs.Ytihkcegelghcpaa
end

section
/- A part of a proof: walks over the functions that it names; their contracts hold for every argument. -/

set_option linter.unusedSimpArgs false
set_option linter.unusedVariables false
namespace Go.Proofs.Ytihkcegelghcpaa
open Go Go.Dm
attribute [local irreducible] DW callP callS
set_option maxRecDepth 100000

theorem take_rev_succ {l : List Sym} {j : Nat} (h : j < l.length) : l.reverse.take (l.length - j) = l.reverse.take (l.length - 1 - j) ++ [l[j]] := by
  rw [show l.length - j = l.length - 1 - j + 1 by omega, List.take_add_one, List.getElem?_reverse (by omega), show l.length - 1 - (l.length - 1 - j) = j by omega]
  simp [h]

def anW3030 : Ann := ⟨[], []⟩
set_option maxHeartbeats 4000000 in
theorem rturn_pure (c : Cnf) : DPure Try.prog 30 [.agg (dCnf c)] (.agg (dCnf (turnC c))) := by
  refine DPure_introF [50] (fn := Try.f30) Try.func30 rfl Try.call30 (by simp [Try.ntmps30]) (by simp [mx]) ?_
  intro hwf B hnt
  have hw : wCnf c := w_cnf (by simpa [wfL, wfD] using hwf.1)
  obtain ⟨hw1, hw2, hw3, hw4⟩ := hw
  clear hwf
  simp only [argS]
  (repeat (first
      | (refine DW_seq fun K hK => ?_)
      | (refine DW_r anW3030 Try.mixed (by kernel_rfl) ?_; simp [hnt, Try.ntmps30, Try.results30, anW3030, dCnf]; try simp (disch := omega) only [wrap64_in])
      | (refine DW_block ?_)
      | (focus (refine DW_if ?_ ?_ ?_; (· (simp [hnt, Try.ntmps30, Try.results30, anW3030, dCnf]; done)); (try (rotate_left; (· (intro hc; (try simp [hnt, Try.ntmps30, Try.results30, anW3030, dCnf] at hc); done))))))
      | (refine DW_ret ?_; simp [hnt, Try.ntmps30, Try.results30, anW3030, dCnf])
      | (refine DW_exit ?_; simp [hnt, Try.ntmps30, Try.results30, anW3030, dCnf])
      | (refine DW_skip ?_; simp [hnt, Try.ntmps30, Try.results30, anW3030, dCnf])
      | (intro hc; (try simp [hnt, Try.ntmps30, Try.results30, anW3030, dCnf] at hc); done)
      | (intro hc; (try simp [hnt, Try.ntmps30, Try.results30, anW3030, dCnf] at hc); (first | (exfalso; omega) | skip))
      | (refine ⟨?_, ?_⟩; · omega)
      | omega
      | apply_assumption -exfalso -symm
      | (exfalso; omega)))
  refine DW_adoptC 3 1 50 33 2 32 (by simp) (fun n => ?_)
  refine DW_loop (X := {k : Nat // k ≤ c.prods.length}) (fun k => ⟨[(1, .ref (dCnf c)), (2, .bx 2 1 0), (3, .bx 3 1 0), (4, .int .i64 k.1)], [⟨2, 1, .box [.int .i64 0, .nilsl]⟩, ⟨3, 1, .box [.int .i64 c.nts, .osl 50 1]⟩, ⟨50, 1, .row 33 2 32 (((turnC c).prods.take k.1).map dProd)⟩]⟩) (fun k => c.prods.length - k.1) ⟨0, by simp⟩ (Sub.lit (by simp [dCnf])) ?_
  rintro ⟨k, hk⟩
  by_cases hlt : k < c.prods.length
  · obtain ⟨p, hp, hp', hpm⟩ := at_lt' hlt
    obtain ⟨hw5, hw6, hw7, hw8⟩ := hw4 p hpm
    have htk : ((turnC c).prods.map dProd).take (k + 1) = ((turnC c).prods.map dProd).take k ++ [dProd ⟨p.head, p.body.reverse⟩] := by rw [List.take_add_one, List.getElem?_map]; simp only [turnC]; rw [List.getElem?_map, hp]; rfl
    have hwr : IntKind.i64.wrap ((p.body.length : Int) - 1) = (p.body.length : Int) - 1 := wrap64_in (by omega) (by omega)
    (repeat (first
        | (refine DW_seq fun K hK => ?_)
        | (refine DW_r anW3030 Try.mixed (by kernel_rfl) ?_; simp [hnt, Try.ntmps30, Try.results30, anW3030, dCnf, dProd, hlt, hp', hwr]; try simp (disch := omega) only [wrap64_in])
        | (refine DW_block ?_)
        | (focus (refine DW_if ?_ ?_ ?_; (· (simp [hnt, Try.ntmps30, Try.results30, anW3030, dCnf, dProd, hlt, hp', hwr]; done)); (try (rotate_left; (· (intro hc; (try simp [hnt, Try.ntmps30, Try.results30, anW3030, dCnf, dProd, hlt, hp', hwr] at hc); done))))))
        | (refine DW_ret ?_; simp [hnt, Try.ntmps30, Try.results30, anW3030, dCnf, dProd, hlt, hp', hwr])
        | (refine DW_exit ?_; simp [hnt, Try.ntmps30, Try.results30, anW3030, dCnf, dProd, hlt, hp', hwr])
        | (refine DW_skip ?_; simp [hnt, Try.ntmps30, Try.results30, anW3030, dCnf, dProd, hlt, hp', hwr])
        | (intro hc; (try simp [hnt, Try.ntmps30, Try.results30, anW3030, dCnf, dProd, hlt, hp', hwr] at hc); done)
        | (intro hc; (try simp [hnt, Try.ntmps30, Try.results30, anW3030, dCnf, dProd, hlt, hp', hwr] at hc); (first | (exfalso; omega) | skip))
        | (refine ⟨?_, ?_⟩; · omega)
        | omega
        | apply_assumption -exfalso -symm
        | (exfalso; omega)))
    refine DW_adoptS 5 51 75 2 16 (by simp [hnt, Try.ntmps30]) (fun n => ?_)
    refine DW_loop (X := {j : Nat // j ≤ p.body.length}) (fun j => ⟨[(1, .ref (dCnf c)), (2, .bx 2 1 0), (3, .bx 3 1 0), (4, .int .i64 k), (5, .osl 51 1), (6, .int .i64 ((j.1 : Int) - 1))], [⟨2, 1, .box [.int .i64 0, .nilsl]⟩, ⟨3, 1, .box [.int .i64 c.nts, .osl 50 1]⟩, ⟨50, 1, .row 33 2 32 (((turnC c).prods.take k).map dProd)⟩, ⟨51, 1, .row 75 2 16 ((p.body.reverse.take (p.body.length - j.1)).map dSym)⟩]⟩) (fun j => j.1) ⟨p.body.length, by simp⟩ (Sub.lit (by simp [dCnf])) ?_
    rintro ⟨j, hj⟩
    by_cases hj0 : 0 < j
    · obtain ⟨x, hx, hx', hxm⟩ := at_lt' (show j - 1 < p.body.length by omega)
      have hts := take_rev_succ (l := p.body) (j := j - 1) (by omega)
      rw [show p.body.length - 1 - (j - 1) = p.body.length - j by omega, hx'] at hts
      have ht : ((j : Int) - 1).toNat = j - 1 := by omega
      have hb1 : (0 : Int) ≤ (j : Int) - 1 := by omega
      have hb2 : (j : Int) - 1 < p.body.length := by omega
      have hw2 : IntKind.i64.wrap ((j : Int) - 1 - 1) = (j : Int) - 1 - 1 := wrap64_in (by omega) (by omega)
      have h1j : (1 : Int) ≤ j := by omega
      have htm : (p.body.map dSym).reverse.take (p.body.length - (j - 1)) = (p.body.map dSym).reverse.take (p.body.length - j) ++ [[.bool x.label, .int .i64 x.n]] := by
        rw [← List.map_reverse, ← List.map_take, hts]; simp [dSym]
      have hji : ((j - 1 : Nat) : Int) - 1 = (j : Int) - 1 - 1 := by omega
      have hmj : mxR ((p.body.map dSym).reverse.take (p.body.length - j)) = 0 := by
        rw [← List.map_reverse, ← List.map_take]; exact mx_dSyms _
      (repeat (first
          | (refine DW_seq fun K hK => ?_)
          | (refine DW_r anW3030 Try.mixed (by kernel_rfl) ?_; simp [hnt, Try.ntmps30, Try.results30, anW3030, dCnf, dProd, dSym, hlt, hp', ht, hb1, hb2, hx, hx', hw2, h1j]; try simp (disch := omega) only [wrap64_in])
          | (refine DW_block ?_)
          | (focus (refine DW_if ?_ ?_ ?_; (· (simp [hnt, Try.ntmps30, Try.results30, anW3030, dCnf, dProd, dSym, hlt, hp', ht, hb1, hb2, hx, hx', hw2, h1j]; done)); (try (rotate_left; (· (intro hc; (try simp [hnt, Try.ntmps30, Try.results30, anW3030, dCnf, dProd, dSym, hlt, hp', ht, hb1, hb2, hx, hx', hw2, h1j] at hc); done))))))
          | (refine DW_ret ?_; simp [hnt, Try.ntmps30, Try.results30, anW3030, dCnf, dProd, dSym, hlt, hp', ht, hb1, hb2, hx, hx', hw2, h1j])
          | (refine DW_exit ?_; simp [hnt, Try.ntmps30, Try.results30, anW3030, dCnf, dProd, dSym, hlt, hp', ht, hb1, hb2, hx, hx', hw2, h1j])
          | (refine DW_skip ?_; simp [hnt, Try.ntmps30, Try.results30, anW3030, dCnf, dProd, dSym, hlt, hp', ht, hb1, hb2, hx, hx', hw2, h1j])
          | (intro hc; (try simp [hnt, Try.ntmps30, Try.results30, anW3030, dCnf, dProd, dSym, hlt, hp', ht, hb1, hb2, hx, hx', hw2, h1j] at hc); done)
          | (intro hc; (try simp [hnt, Try.ntmps30, Try.results30, anW3030, dCnf, dProd, dSym, hlt, hp', ht, hb1, hb2, hx, hx', hw2, h1j] at hc); (first | (exfalso; omega) | skip))
          | (refine ⟨?_, ?_⟩; · omega)
          | omega
          | apply_assumption -exfalso -symm
          | (exfalso; omega)))
      refine Again.mk ⟨j - 1, by omega⟩ (Sub.lit (by simp [dCnf, htm, hji, hmj, dSym])) (by simp; omega)
      (repeat (first
          | (refine DW_seq fun K hK => ?_)
          | (refine DW_r anW3030 Try.mixed (by kernel_rfl) ?_; simp [hnt, Try.ntmps30, Try.results30, anW3030]; try simp (disch := omega) only [wrap64_in])
          | (refine DW_block ?_)
          | (focus (refine DW_if ?_ ?_ ?_; (· (simp [hnt, Try.ntmps30, Try.results30, anW3030]; done)); (try (rotate_left; (· (intro hc; (try simp [hnt, Try.ntmps30, Try.results30, anW3030] at hc); done))))))
          | (refine DW_ret ?_; simp [hnt, Try.ntmps30, Try.results30, anW3030])
          | (refine DW_exit ?_; simp [hnt, Try.ntmps30, Try.results30, anW3030])
          | (refine DW_skip ?_; simp [hnt, Try.ntmps30, Try.results30, anW3030])
          | (intro hc; (try simp [hnt, Try.ntmps30, Try.results30, anW3030] at hc); done)
          | (intro hc; (try simp [hnt, Try.ntmps30, Try.results30, anW3030] at hc); (first | (exfalso; omega) | skip))
          | (refine ⟨?_, ?_⟩; · omega)
          | omega
          | apply_assumption -exfalso -symm
          | (exfalso; omega)))
    · have hj1 : j = 0 := by omega
      subst hj1
      have h1j : ¬ (1 : Int) ≤ ((0 : Nat) : Int) := by omega
      have hrv : (p.body.map dSym).reverse.take p.body.length = p.body.reverse.map dSym := by
        rw [← List.map_reverse, List.take_of_length_le (by simp)]
      refine DW_sub (Sub.freezeL [51] _) ?_
      simp only [Nat.sub_zero, List.map_take, List.map_reverse, hrv]
      simp [hnt, Try.ntmps30, Try.results30, anW3030, dCnf, hrv]
      (repeat (first
          | (refine DW_seq fun K hK => ?_)
          | (refine DW_r anW3030 Try.mixed (by kernel_rfl) ?_; simp [hnt, Try.ntmps30, Try.results30, anW3030, dCnf, dProd, hlt, hp', h1j]; try simp (disch := omega) only [wrap64_in])
          | (refine DW_block ?_)
          | (focus (refine DW_if ?_ ?_ ?_; (· (simp [hnt, Try.ntmps30, Try.results30, anW3030, dCnf, dProd, hlt, hp', h1j]; done)); (try (rotate_left; (· (intro hc; (try simp [hnt, Try.ntmps30, Try.results30, anW3030, dCnf, dProd, hlt, hp', h1j] at hc); done))))))
          | (refine DW_ret ?_; simp [hnt, Try.ntmps30, Try.results30, anW3030, dCnf, dProd, hlt, hp', h1j])
          | (refine DW_exit ?_; simp [hnt, Try.ntmps30, Try.results30, anW3030, dCnf, dProd, hlt, hp', h1j])
          | (refine DW_skip ?_; simp [hnt, Try.ntmps30, Try.results30, anW3030, dCnf, dProd, hlt, hp', h1j])
          | (intro hc; (try simp [hnt, Try.ntmps30, Try.results30, anW3030, dCnf, dProd, hlt, hp', h1j] at hc); done)
          | (intro hc; (try simp [hnt, Try.ntmps30, Try.results30, anW3030, dCnf, dProd, hlt, hp', h1j] at hc); (first | (exfalso; omega) | skip))
          | (refine ⟨?_, ?_⟩; · omega)
          | omega
          | apply_assumption -exfalso -symm
          | (exfalso; omega)))
      have hmr : mxR (p.body.map dSym).reverse = 0 := by rw [← List.map_reverse]; exact mx_dSyms _
      refine Again.mk ⟨k + 1, by omega⟩ (Sub.lit (by simp [dCnf, htk, dProd, dSyms, hmr])) (by simp; omega)
      (repeat (first
          | (refine DW_seq fun K hK => ?_)
          | (refine DW_r anW3030 Try.mixed (by kernel_rfl) ?_; simp [hnt, Try.ntmps30, Try.results30, anW3030]; try simp (disch := omega) only [wrap64_in])
          | (refine DW_block ?_)
          | (focus (refine DW_if ?_ ?_ ?_; (· (simp [hnt, Try.ntmps30, Try.results30, anW3030]; done)); (try (rotate_left; (· (intro hc; (try simp [hnt, Try.ntmps30, Try.results30, anW3030] at hc); done))))))
          | (refine DW_ret ?_; simp [hnt, Try.ntmps30, Try.results30, anW3030])
          | (refine DW_exit ?_; simp [hnt, Try.ntmps30, Try.results30, anW3030])
          | (refine DW_skip ?_; simp [hnt, Try.ntmps30, Try.results30, anW3030])
          | (intro hc; (try simp [hnt, Try.ntmps30, Try.results30, anW3030] at hc); done)
          | (intro hc; (try simp [hnt, Try.ntmps30, Try.results30, anW3030] at hc); (first | (exfalso; omega) | skip))
          | (refine ⟨?_, ?_⟩; · omega)
          | omega
          | apply_assumption -exfalso -symm
          | (exfalso; omega)))
  · have hkk : k = c.prods.length := by omega
    subst hkk
    (repeat (first
        | (refine DW_seq fun K hK => ?_)
        | (refine DW_r anW3030 Try.mixed (by kernel_rfl) ?_; simp [hnt, Try.ntmps30, Try.results30, anW3030, dCnf]; try simp (disch := omega) only [wrap64_in])
        | (refine DW_block ?_)
        | (focus (refine DW_if ?_ ?_ ?_; (· (simp [hnt, Try.ntmps30, Try.results30, anW3030, dCnf]; done)); (try (rotate_left; (· (intro hc; (try simp [hnt, Try.ntmps30, Try.results30, anW3030, dCnf] at hc); done))))))
        | (refine DW_ret ?_; simp [hnt, Try.ntmps30, Try.results30, anW3030, dCnf])
        | (refine DW_exit ?_; simp [hnt, Try.ntmps30, Try.results30, anW3030, dCnf])
        | (refine DW_skip ?_; simp [hnt, Try.ntmps30, Try.results30, anW3030, dCnf])
        | (intro hc; (try simp [hnt, Try.ntmps30, Try.results30, anW3030, dCnf] at hc); done)
        | (intro hc; (try simp [hnt, Try.ntmps30, Try.results30, anW3030, dCnf] at hc); (first | (exfalso; omega) | skip))
        | (refine ⟨?_, ?_⟩; · omega)
        | omega
        | apply_assumption -exfalso -symm
        | (exfalso; omega)))
    simp only [turnC, List.map_map]
    exact ⟨trivial, List.take_of_length_le (by simp)⟩
end Go.Proofs.Ytihkcegelghcpaa
end

