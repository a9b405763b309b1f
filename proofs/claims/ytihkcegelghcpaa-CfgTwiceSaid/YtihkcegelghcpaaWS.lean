/- Sorted once: insertion tells the same as sorting and leaving out what is twice. Plain Lean. -/
import Derived.Test.YtihkcegelghcpaaWO
import Derived.Test.YtihkcegelghcpaaW98
set_option linter.unusedSimpArgs false
set_option linter.unusedVariables false
namespace Go.Proofs.Ytihkcegelghcpaa
open Go Go.Dm

def insC {α : Type} (c : α → α → Int) : List α → α → List α
  | [], p => [p]
  | x :: l, p => if c x p < 0 then x :: insC c l p else if c p x < 0 then p :: x :: l else x :: l
theorem insC_ne {α : Type} {c : α → α → Int} (l : List α) (p : α) : insC c l p ≠ [] := by
  cases l with
  | nil => simp [insC]
  | cons x l => simp only [insC]; split <;> (try split) <;> simp
theorem mem_insC {α : Type} {c : α → α → Int} (h : OrdC c) {p z : α} : ∀ {l : List α}, z ∈ insC c l p ↔ z = p ∨ z ∈ l
  | [] => by simp [insC]
  | x :: l => by
    have ih := mem_insC h (p := p) (z := z) (l := l)
    simp only [insC]
    split
    · rw [List.mem_cons, ih, List.mem_cons]
      exact ⟨fun hh => by rcases hh with a | a | a <;> simp [a], fun hh => by rcases hh with a | a | a <;> simp [a]⟩
    · rename_i h1
      split
      · simp only [List.mem_cons]
      · rename_i h2
        have := h.le_anti h1 h2
        subst this
        simp only [List.mem_cons]
        exact ⟨.inr, fun hh => by
          rcases hh with a | a
          · exact .inl a
          · exact a⟩
def strictC {α : Type} (c : α → α → Int) (l : List α) : Prop := l.Pairwise (fun x y => c x y < 0)
theorem insC_strict {α : Type} {c : α → α → Int} (h : OrdC c) {p : α} : ∀ {l : List α}, strictC c l → strictC c (insC c l p)
  | [], _ => by simp [insC, strictC]
  | x :: l, hs => by
    obtain ⟨h1, h2⟩ := List.pairwise_cons.1 hs
    simp only [insC]
    split
    · rename_i hx
      refine List.pairwise_cons.2 ⟨fun z hz => ?_, insC_strict h h2⟩
      rcases (mem_insC h).1 hz with rfl | hz
      · exact hx
      · exact h1 z hz
    · split
      · rename_i hx
        refine List.pairwise_cons.2 ⟨fun z hz => ?_, hs⟩
        rcases List.mem_cons.1 hz with rfl | hz
        · exact hx
        · exact h.trans _ _ _ hx (h1 z hz)
      · exact hs
theorem fold_strict {α : Type} {c : α → α → Int} (h : OrdC c) : ∀ (l a : List α), strictC c a → strictC c (l.foldl (insC c) a) ∧ ∀ z, z ∈ l.foldl (insC c) a ↔ z ∈ l ∨ z ∈ a
  | [], a, ha => ⟨ha, by simp⟩
  | x :: l, a, ha => by
    obtain ⟨h1, h2⟩ := fold_strict h l (insC c a x) (insC_strict h ha)
    refine ⟨h1, fun z => ?_⟩
    rw [List.foldl_cons, h2, mem_insC h, List.mem_cons]
    exact ⟨fun hh => by rcases hh with q | q | q <;> simp [q], fun hh => by rcases hh with (q | q) | q <;> simp [q]⟩
theorem strict_irr {α : Type} {c : α → α → Int} (h : OrdC c) {x : α} : ¬ c x x < 0 := by rw [h.refl]; omega
theorem strict_eq {α : Type} {c : α → α → Int} (h : OrdC c) : ∀ {a b : List α}, strictC c a → strictC c b → (∀ z, z ∈ a ↔ z ∈ b) → a = b
  | [], [], _, _, _ => rfl
  | [], y :: b, _, _, hm => by have := (hm y).2 List.mem_cons_self; simp at this
  | x :: a, [], _, _, hm => by have := (hm x).1 List.mem_cons_self; simp at this
  | x :: a, y :: b, ha, hb, hm => by
    obtain ⟨a1, a2⟩ := List.pairwise_cons.1 ha
    obtain ⟨b1, b2⟩ := List.pairwise_cons.1 hb
    have hxy : x = y := by
      rcases List.mem_cons.1 ((hm x).1 List.mem_cons_self) with h1 | h1
      · exact h1
      · rcases List.mem_cons.1 ((hm y).2 List.mem_cons_self) with h2 | h2
        · exact h2.symm
        · exact absurd (h.trans _ _ _ (a1 y h2) (b1 x h1)) (strict_irr h)
    subst hxy
    rw [strict_eq h a2 b2 fun z => ?_]
    constructor
    · intro hz
      rcases List.mem_cons.1 ((hm z).1 (List.mem_cons_of_mem _ hz)) with h1 | h1
      · subst h1; exact absurd (a1 z hz) (strict_irr h)
      · exact h1
    · intro hz
      rcases List.mem_cons.1 ((hm z).2 (List.mem_cons_of_mem _ hz)) with h1 | h1
      · subst h1; exact absurd (b1 z hz) (strict_irr h)
      · exact h1

theorem compGo_strict {α : Type} {c : α → α → Int} (h : OrdC c) : ∀ {l : List α} {p : α}, (p :: l).Pairwise (fun x y => ¬ c y x < 0) → strictC c (p :: compGo (fun x y => c x y == 0) p l) ∧ ∀ z, z ∈ p :: compGo (fun x y => c x y == 0) p l ↔ z ∈ p :: l
  | [], p, _ => by simp [compGo, strictC]
  | y :: l, p, hs => by
    obtain ⟨h1, h2⟩ := List.pairwise_cons.1 hs
    obtain ⟨i1, i2⟩ := compGo_strict h h2
    simp only [compGo]
    split
    · rename_i he
      have : y = p := (h.eq0 _ _).1 (by simpa using he)
      subst this
      exact ⟨i1, fun z => by rw [i2]; simp⟩
    · rename_i he
      have hne : y ≠ p := fun hh => he (by subst hh; simp [h.refl])
      have hlt : c p y < 0 := by
        rcases h.nle.1 (h1 y List.mem_cons_self) with h3 | h3
        · exact h3
        · exact absurd h3 hne
      refine ⟨List.pairwise_cons.2 ⟨fun z hz => ?_, i1⟩, fun z => ?_⟩
      · obtain ⟨j1, _⟩ := List.pairwise_cons.1 i1
        rcases List.mem_cons.1 hz with rfl | hz
        · exact hlt
        · exact h.trans _ _ _ hlt (j1 z hz)
      · have := i2 z
        rw [List.mem_cons, this]
        simp [List.mem_cons]
theorem compL_strict {α : Type} {c : α → α → Int} (h : OrdC c) {l : List α} (hs : l.Pairwise (fun x y => ¬ c y x < 0)) : strictC c (compL (fun x y => c x y == 0) l) ∧ ∀ z, z ∈ compL (fun x y => c x y == 0) l ↔ z ∈ l := by
  cases l with
  | nil => simp [compL, strictC]
  | cons x l => exact compGo_strict h hs

/-- THE LAW: insertion one by one = sorted, and what is twice left out -/
theorem fold_ins {α : Type} {c : α → α → Int} (h : OrdC c) (l : List α) : l.foldl (insC c) [] = compL (fun x y => c x y == 0) (sortC c l) := by
  obtain ⟨h1, h2⟩ := fold_strict h l [] List.Pairwise.nil
  obtain ⟨h3, h4⟩ := compL_strict h (sortC_sorted h l)
  refine strict_eq h h1 h3 fun z => ?_
  rw [h2, h4, (sortC_perm c l).mem_iff]
  simp
theorem strict_sorted {α : Type} {c : α → α → Int} (h : OrdC c) {l : List α} (hs : strictC c l) : l.Pairwise (fun x y => ¬ c y x < 0) := by
  refine hs.imp fun {x y} hxy => ?_
  have := (h.anti x y).1 hxy
  omega
/-- sorted once is sorted for good -/
theorem norm_idem {α : Type} {c : α → α → Int} (h : OrdC c) (l : List α) : compL (fun x y => c x y == 0) (sortC c (compL (fun x y => c x y == 0) (sortC c l))) = compL (fun x y => c x y == 0) (sortC c l) := by
  obtain ⟨h3, h4⟩ := compL_strict h (sortC_sorted h l)
  obtain ⟨h5, h6⟩ := compL_strict h (sortC_sorted h (compL (fun x y => c x y == 0) (sortC c l)))
  refine strict_eq h h5 h3 fun z => ?_
  rw [h6, (sortC_perm c _).mem_iff]
theorem compGo_len {α : Type} {e : α → α → Bool} : ∀ (l : List α) (p : α), (compGo e p l).length ≤ l.length
  | [], _ => by simp [compGo]
  | y :: l, p => by
    have := compGo_len (e := e) l y
    simp only [compGo]
    split <;> simp <;> omega
theorem compL_len {α : Type} {e : α → α → Bool} (l : List α) : (compL e l).length ≤ l.length := by
  cases l with
  | nil => simp [compL]
  | cons x l => have := compGo_len (e := e) l x; simp [compL]; omega
end Go.Proofs.Ytihkcegelghcpaa
