/- Parts of a proof, laid together: PU. -/
import Derived.Test.YtdgocjbakjamaaaGreatqRw10
section
set_option linter.unusedSectionVars false
/- What 'of bulk at most 1048576' says of sizes. -/

set_option linter.unusedSimpArgs false
set_option linter.unusedVariables false
namespace Go.Proofs.YtdgocjbakjamaaaGreat
open Go Go.Dm
variable [DMode]

mutual
def shLe (C : Nat) : Sh → Bool
 | .b => true
 | .i _ => true
 | .s => true
 | .sl _ bs c => decide (bs ≤ C) && shLeL C c
def shLeL (C : Nat) : List Sh → Bool
 | [] => true
 | x :: r => shLe C x && shLeL C r
end
theorem shLeL_append {C : Nat} : ∀ {a b : List Sh}, shLeL C (a ++ b) = (shLeL C a && shLeL C b)
 | [], b => by simp [shLeL]
 | x :: a, b => by simp [shLeL, shLeL_append (a := a), Bool.and_assoc]

section
variable {H : Type}
theorem bulk_pos (d : DataW H) : 1 ≤ Rows.uptoBulk d := by
 cases d with
 | lit l => cases l <;> simp only [Rows.uptoBulk] <;> omega
 | _ => simp only [Rows.uptoBulk] <;> omega
theorem bulk_len : ∀ l : List (DataW H), l.length ≤ Rows.uptoBulkAll l
 | [] => by simp
 | d :: r => by
  have := bulk_pos d
  have := bulk_len r
  simp only [Rows.uptoBulkAll, List.length_cons]
  omega
theorem weights_bulk {P : Program} {C : Nat} (hC : 1 ≤ C) : ∀ (n : Nat) (t : TypeId) (shs : List Sh) (d : DataW H), shOf P n t = some shs → shLeL C shs = true → ∀ x ∈ d.weights P t, x ≤ Rows.uptoBulk d * C
 | 0, t, shs, d, h, hl => by simp [shOf] at h
 | n + 1, t, shs, d, h, hl => by
  intro x hx
  have all : ∀ (e : TypeId) (c : List Sh), shOf P n e = some c → shLeL C c = true → ∀ (l : List (DataW H)), ∀ x ∈ DataW.weightsAll P e l, x ≤ Rows.uptoBulkAll l * C := by
   intro e c he hc l
   induction l with
   | nil => intro x hx; simp [DataW.weightsAll] at hx
   | cons d r ih =>
    intro x hx
    simp only [DataW.weightsAll, List.mem_append] at hx
    simp only [Rows.uptoBulkAll, Nat.add_mul]
    rcases hx with hx | hx
    ·have := weights_bulk hC n e c d he hc x hx; omega
    ·have := ih x hx; omega
  have each : ∀ (fs : List Field) (off e : Nat) (l : List Sh), shF (shOf P n) P.cellsOf fs off = some (l, e) → shLeL C l = true → ∀ (parts : List (DataW H)), ∀ x ∈ DataW.weightsEach P (fs.map (·.type)) parts, x ≤ Rows.uptoBulkAll parts * C := by
   intro fs
   induction fs with
   | nil => intro off e l _ _ parts x hx; simp [DataW.weightsEach] at hx
   | cons f fs ih =>
    intro off e l hf hc parts x hx
    cases parts with
    | nil => simp [DataW.weightsEach] at hx
    | cons d r =>
     simp only [shF] at hf
     split at hf
     ·split at hf
      ·rename_i c l' e' h4 h5
       simp only [Option.some.injEq, Prod.mk.injEq] at hf
       obtain ⟨rfl, rfl⟩ := hf
       rw [shLeL_append, Bool.and_eq_true] at hc
       simp only [List.map_cons, DataW.weightsEach, List.mem_append] at hx
       simp only [Rows.uptoBulkAll, Nat.add_mul]
       rcases hx with hx | hx
       ·have := weights_bulk hC n f.type c d h4 hc.1 x hx; omega
       ·have := ih _ _ _ h5 hc.2 r x hx; omega
      ·simp at hf
     ·simp at hf
  cases d with
  | lit l =>
   cases l <;> simp only [DataW.weights, List.mem_singleton, List.not_mem_nil] at hx
   subst hx
   simp only [Rows.uptoBulk]
   exact Nat.le_trans (Nat.le_succ _) (Nat.le_mul_of_pos_right _ hC)
  | nil => simp [DataW.weights] at hx
  | held a => simp [DataW.weights] at hx
  | iface a b => simp [DataW.weights] at hx
  | ptr d =>
   simp only [DataW.weights] at hx
   split at hx
   ·rename_i hu; simp [shOf, hu] at h
   ·simp at hx
  | map es =>
   simp only [DataW.weights] at hx
   split at hx
   ·rename_i hu; simp [shOf, hu] at h
   ·simp at hx
  | slice elems spare =>
   simp only [DataW.weights] at hx
   split at hx
   ·rename_i e hu
    simp only [shOf, hu] at h
    split at h
    rotate_left
    ·simp at h
    rw [Option.map_eq_some_iff] at h
    obtain ⟨c, hc, rfl⟩ := h
    simp only [shLeL, shLe, Bool.and_true, Bool.and_eq_true, decide_eq_true_eq] at hl
    simp only [Rows.uptoBulk, Nat.add_mul]
    simp only [List.mem_cons, List.mem_append] at hx
    rcases hx with rfl | hx | hx
    ·have h1 := bulk_len elems
     have h2 := bulk_len spare
     rw [Nat.add_mul]
     have g1 := Nat.mul_le_mul h1 hl.1
     have g2 := Nat.mul_le_mul h2 hl.1
     omega
    ·have := all e c hc hl.2 elems x hx; omega
    ·have := all e c hc hl.2 spare x hx; omega
   ·simp at hx
  | agg parts =>
   simp only [DataW.weights] at hx
   split at hx
   ·rename_i fs hu
    simp only [shOf, hu] at h
    split at h
    ·rename_i l e hf
     split at h
     ·simp only [Option.some.injEq] at h
      subst h
      simp only [Rows.uptoBulk, Nat.add_mul]
      have := each fs.toList 0 e l hf hl parts x hx
      omega
     ·simp at h
    ·simp at h
   ·rename_i hu; simp [shOf, hu] at h
   ·simp at hx
theorem weightsEach_bulk {P : Program} {C n : Nat} (hC : 1 ≤ C) : ∀ {ts : List TypeId} {shs : List (List Sh)} (ds : List (DataW H)), ts.map (shOf P n) = shs.map some → shs.all (shLeL C) = true → ∀ x ∈ DataW.weightsEach P ts ds, x ≤ Rows.uptoBulkAll ds * C
 | [], shs, ds, h, hl => by intro x hx; simp [DataW.weightsEach] at hx
 | t :: ts, shs, ds, h, hl => by
  intro x hx
  cases ds with
  | nil => simp [DataW.weightsEach] at hx
  | cons d r =>
   cases shs with
   | nil => simp at h
   | cons s ss =>
    simp only [List.map_cons, List.cons.injEq] at h
    simp only [List.all_cons, Bool.and_eq_true] at hl
    simp only [DataW.weightsEach, List.mem_append] at hx
    simp only [Rows.uptoBulkAll, Nat.add_mul]
    rcases hx with hx | hx
    ·have := weights_bulk hC n t s d h.1 hl.1 x hx; omega
    ·have := weightsEach_bulk hC r h.2 hl.2 x hx; omega
theorem small_le {P : Program} {C n : Nat} (hC : 1 ≤ C) {ts : List TypeId} {shs : List (List Sh)} {ds : List (DataW H)} (hk : Rows.uptoSmall H ds = true) (h : ts.map (shOf P n) = shs.map some) (hl : shs.all (shLeL C) = true) : ∀ x ∈ DataW.weightsEach P ts ds, x ≤ 1048576 * C := by
 intro x hx
 have h1 := weightsEach_bulk hC ds h hl x hx
 simp only [Rows.uptoSmall, decide_eq_true_eq] at hk
 exact Nat.le_trans h1 (Nat.mul_le_mul_right _ hk)
end
end Go.Proofs.YtdgocjbakjamaaaGreat
end

