/- Orders told by a comparison: plain Lean. -/
import Derived.Test.YtihkcegelghcpaaW97
set_option linter.unusedSimpArgs false
set_option linter.unusedVariables false
namespace Go.Proofs.Ytihkcegelghcpaa
open Go Go.Dm

/-- a comparison that tells a total order -/
structure OrdC {α : Type} (c : α → α → Int) : Prop where
  eq0 : ∀ x y, c x y = 0 ↔ x = y
  anti : ∀ x y, c x y < 0 ↔ 0 < c y x
  trans : ∀ x y z, c x y < 0 → c y z < 0 → c x z < 0
theorem OrdC.refl {α : Type} {c : α → α → Int} (h : OrdC c) (x : α) : c x x = 0 := (h.eq0 x x).2 rfl
theorem OrdC.nle {α : Type} {c : α → α → Int} (h : OrdC c) {x y : α} : ¬ c x y < 0 ↔ c y x < 0 ∨ x = y := by
  have h1 := h.anti x y
  have h2 := h.anti y x
  have h3 := h.eq0 x y
  constructor
  · intro hn
    by_cases h0 : c x y = 0
    · exact .inr (h3.1 h0)
    · exact .inl (h2.2 (by omega))
  · rintro (h4 | rfl)
    · have := h2.1 h4; omega
    · rw [h.refl]; omega
theorem OrdC.ntrans {α : Type} {c : α → α → Int} (h : OrdC c) (x y z : α) (h1 : ¬ c x y < 0) (h2 : ¬ c y z < 0) : ¬ c x z < 0 := by
  rw [h.nle] at *
  rcases h1 with h1 | rfl
  · rcases h2 with h2 | rfl
    · exact .inl (h.trans _ _ _ h2 h1)
    · exact .inl h1
  · exact h2
theorem OrdC.le_anti {α : Type} {c : α → α → Int} (h : OrdC c) {x y : α} (h1 : ¬ c x y < 0) (h2 : ¬ c y x < 0) : x = y := by
  rcases h.nle.1 h1 with h1 | h1
  · exact absurd h1 h2
  · exact h1
theorem OrdC.total {α : Type} {c : α → α → Int} (h : OrdC c) (x y : α) : ¬ c x y < 0 ∨ ¬ c y x < 0 := by
  by_cases h1 : c x y < 0
  · right; have := (h.anti x y).1 h1; omega
  · exact .inl h1

theorem ordI : OrdC cmpI := by
  refine ⟨fun x y => ?_, fun x y => ?_, fun x y z => ?_⟩ <;> unfold cmpI
  · split
    · constructor <;> intro h <;> omega
    · split
      · constructor <;> intro h <;> omega
      · constructor <;> intro h <;> omega
  · by_cases h1 : x < y <;> by_cases h2 : y < x <;> simp [h1, h2] <;> omega
  · by_cases h1 : x < y <;> by_cases h2 : y < z <;> by_cases h3 : x < z <;> simp [h1, h2, h3] <;> (try split) <;> (try split) <;> omega

def lexC {α β : Type} (c : α → α → Int) (d : β → β → Int) (x y : α × β) : Int := if c x.1 y.1 = 0 then d x.2 y.2 else c x.1 y.1
theorem ordLex {α β : Type} {c : α → α → Int} {d : β → β → Int} (h : OrdC c) (k : OrdC d) : OrdC (lexC c d) := by
  refine ⟨fun x y => ?_, fun x y => ?_, fun x y z => ?_⟩ <;> unfold lexC
  · obtain ⟨x1, x2⟩ := x
    obtain ⟨y1, y2⟩ := y
    simp only [_root_.Prod.mk.injEq]
    split
    · rename_i h0
      rw [k.eq0]
      exact ⟨fun hh => ⟨(h.eq0 _ _).1 h0, hh⟩, fun hh => hh.2⟩
    · rename_i h0
      exact ⟨fun hh => absurd hh h0, fun hh => absurd ((h.eq0 _ _).2 hh.1) h0⟩
  · by_cases h0 : c x.1 y.1 = 0
    · have h1 : c y.1 x.1 = 0 := (h.eq0 _ _).2 ((h.eq0 _ _).1 h0).symm
      rw [if_pos h0, if_pos h1]; exact k.anti _ _
    · have h1 : ¬ c y.1 x.1 = 0 := fun hh => h0 ((h.eq0 _ _).2 ((h.eq0 _ _).1 hh).symm)
      rw [if_neg h0, if_neg h1]; exact h.anti _ _
  · by_cases h0 : c x.1 y.1 = 0
    · have e0 := (h.eq0 _ _).1 h0
      rw [if_pos h0]
      by_cases h1 : c y.1 z.1 = 0
      · have e1 := (h.eq0 _ _).1 h1
        have h2 : c x.1 z.1 = 0 := (h.eq0 _ _).2 (e0.trans e1)
        rw [if_pos h1, if_pos h2]; exact k.trans _ _ _
      · have h2 : ¬ c x.1 z.1 = 0 := by rw [e0]; exact h1
        rw [if_neg h1, if_neg h2, e0]; exact fun _ hh => hh
    · rw [if_neg h0]
      by_cases h1 : c y.1 z.1 = 0
      · have e1 := (h.eq0 _ _).1 h1
        have h2 : ¬ c x.1 z.1 = 0 := by rw [← e1]; exact h0
        rw [if_pos h1, if_neg h2, ← e1]; exact fun hh _ => hh
      · rw [if_neg h1]
        intro h3 h4
        have h5 := h.trans _ _ _ h3 h4
        have h2 : ¬ c x.1 z.1 = 0 := by omega
        rw [if_neg h2]; exact h5
theorem ordKey {α β : Type} {c : α → α → Int} (h : OrdC c) (f : β → α) (hf : ∀ x y, f x = f y → x = y) : OrdC (fun x y => c (f x) (f y)) :=
  ⟨fun x y => by rw [h.eq0]; exact ⟨hf _ _, fun hh => by rw [hh]⟩, fun x y => h.anti _ _, fun x y z => h.trans _ _ _⟩
theorem ordL {α : Type} {c : α → α → Int} (h : OrdC c) : OrdC (cmpL c) := by
  refine ⟨fun x => ?_, fun x => ?_, fun x => ?_⟩
  · induction x with
    | nil => intro y; cases y <;> simp [cmpL]
    | cons a x ih =>
      intro y
      cases y with
      | nil => simp [cmpL]
      | cons b y =>
        simp only [cmpL, List.cons.injEq]
        split
        · rename_i h0
          rw [ih]
          exact ⟨fun hh => ⟨(h.eq0 _ _).1 h0, hh⟩, fun hh => hh.2⟩
        · rename_i h0
          exact ⟨fun hh => absurd hh h0, fun hh => absurd ((h.eq0 _ _).2 hh.1) h0⟩
  · induction x with
    | nil => intro y; cases y <;> simp [cmpL]
    | cons a x ih =>
      intro y
      cases y with
      | nil => simp [cmpL]
      | cons b y =>
        simp only [cmpL]
        by_cases h0 : c a b = 0
        · have h1 : c b a = 0 := (h.eq0 _ _).2 ((h.eq0 _ _).1 h0).symm
          rw [if_pos h0, if_pos h1]; exact ih y
        · have h1 : ¬ c b a = 0 := fun hh => h0 ((h.eq0 _ _).2 ((h.eq0 _ _).1 hh).symm)
          rw [if_neg h0, if_neg h1]; exact h.anti _ _
  · induction x with
    | nil => intro y z; cases y <;> cases z <;> simp [cmpL]
    | cons a x ih =>
      intro y z
      cases y with
      | nil => simp [cmpL]
      | cons b y =>
        cases z with
        | nil => simp [cmpL]
        | cons d z =>
          simp only [cmpL]
          by_cases h0 : c a b = 0
          · have e0 := (h.eq0 _ _).1 h0
            rw [if_pos h0]
            by_cases h1 : c b d = 0
            · have h2 : c a d = 0 := by rw [e0]; exact h1
              rw [if_pos h1, if_pos h2]; exact ih y z
            · have h2 : ¬ c a d = 0 := by rw [e0]; exact h1
              rw [if_neg h1, if_neg h2, e0]; exact fun _ hh => hh
          · rw [if_neg h0]
            by_cases h1 : c b d = 0
            · have e1 := (h.eq0 _ _).1 h1
              have h2 : ¬ c a d = 0 := by rw [← e1]; exact h0
              rw [if_pos h1, if_neg h2, ← e1]; exact fun hh _ => hh
            · rw [if_neg h1]
              intro h3 h4
              have h5 := h.trans _ _ _ h3 h4
              have h2 : ¬ c a d = 0 := by omega
              rw [if_neg h2]; exact h5

theorem ordSym : OrdC symC := by
  have h := ordKey (ordLex ordI ordI) (fun s : Sym => ((if s.label then 1 else 0 : Int), s.n)) (by
    rintro ⟨l, n⟩ ⟨l', n'⟩ hh
    simp only [_root_.Prod.mk.injEq] at hh
    obtain ⟨h1, rfl⟩ := hh
    cases l <;> cases l' <;> simp_all)
  have e : symC = fun x y : Sym => lexC cmpI cmpI ((if x.label then 1 else 0 : Int), x.n) ((if y.label then 1 else 0 : Int), y.n) := by
    funext x y
    obtain ⟨l, n⟩ := x
    obtain ⟨l', n'⟩ := y
    cases l <;> cases l' <;> simp [symC, lexC, cmpI]
  rw [e]; exact h
theorem ordProd : OrdC prodC := by
  have h := ordKey (ordLex ordI (ordLex ordI (ordL ordSym))) (fun p : Prod => (p.head, ((p.body.length : Int), p.body))) (by
    rintro ⟨l, n⟩ ⟨l', n'⟩ hh
    simp only [_root_.Prod.mk.injEq] at hh
    obtain ⟨rfl, _, rfl⟩ := hh
    rfl)
  exact h

/-- the one sorted list -/
def sortC {α : Type} (c : α → α → Int) (l : List α) : List α := l.mergeSort (fun x y => !decide (c y x < 0))
theorem sortC_perm {α : Type} (c : α → α → Int) (l : List α) : (sortC c l).Perm l := List.mergeSort_perm _ _
theorem sortC_sorted {α : Type} {c : α → α → Int} (h : OrdC c) (l : List α) : (sortC c l).Pairwise (fun x y => ¬ c y x < 0) := by
  have := List.pairwise_mergeSort (le := fun x y => !decide (c y x < 0)) (by
    intro a b d h1 h2
    simp only [Bool.not_eq_true', decide_eq_false_iff_not] at *
    exact h.ntrans _ _ _ h2 h1) (by
    intro a b
    simp only [Bool.or_eq_true, Bool.not_eq_true', decide_eq_false_iff_not]
    exact h.total b a) l
  exact this.imp fun h => by simpa using h
theorem sorted_eq {α : Type} {c : α → α → Int} (h : OrdC c) {a b : List α} (hp : a.Perm b) (ha : a.Pairwise (fun x y => ¬ c y x < 0)) (hb : b.Pairwise (fun x y => ¬ c y x < 0)) : a = b :=
  List.Perm.eq_of_pairwise (le := fun x y => ¬ c y x < 0) (fun x y _ _ h1 h2 => h.le_anti h2 h1) ha hb hp

def unSym : List DVal → Sym
  | [.bool b, .int _ n] => ⟨b, n⟩
  | _ => ⟨false, 0⟩
def unProd : List DVal → Prod
  | [.int _ h, .sl _ _ es] => ⟨h, es.map unSym⟩
  | _ => ⟨0, []⟩
theorem unSym_d (s : Sym) : unSym (dSym s) = s := rfl
theorem unProd_d (p : Prod) : unProd (dProd p) = p := by
  obtain ⟨h, b⟩ := p
  simp only [unProd, dProd, List.map_map, Prod.mk.injEq, true_and]
  rw [show unSym ∘ dSym = id from funext unSym_d, List.map_id]
theorem uniq_rows {α : Type} {c : α → α → Int} (h : OrdC c) {d : α → List DVal} {u : List DVal → α} (hu : ∀ x, u (d x) = x) {l : List α} {L : List (List DVal)} (hp : L.Perm (l.map d)) (hs : L.Pairwise (fun x y => ¬ c (u y) (u x) < 0)) : L = (sortC c l).map d := by
  have h1 : (L.map u).Perm l := by
    have := hp.map u
    rwa [List.map_map, show u ∘ d = id from funext hu, List.map_id] at this
  have h2 : (L.map u).Pairwise (fun x y => ¬ c y x < 0) := by rw [List.pairwise_map]; exact hs
  have h3 := sorted_eq h (h1.trans (sortC_perm c l).symm) h2 (sortC_sorted h l)
  have h4 : L = (L.map u).map d := by
    rw [List.map_map]
    have h5 : ∀ x ∈ L, (d ∘ u) x = id x := by
      intro x hx
      obtain ⟨y, _, rfl⟩ := List.mem_map.1 (hp.mem_iff.1 hx)
      simp [hu]
    rw [List.map_congr_left h5, List.map_id]
  rw [h4, h3]
end Go.Proofs.Ytihkcegelghcpaa
