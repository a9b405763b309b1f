/- What the statements share: shapes of the argument types. -/
import Derived.Test.YtihkcegelghcpaaW0
import Derived.Test.YtihkcegelghcpaaEnU
import Derived.Test.YtihkcegelghcpaaRows
set_option linter.unusedSimpArgs false
set_option linter.unusedVariables false
namespace Go.Proofs.Ytihkcegelghcpaa
open Go Go.Dm
open Go.ChangeShapes Go.WideShapes Go.ChangeAt Go.RowKit

theorem own : ownKnob Try.prog.godebug = none := by kernel_rfl
theorem laidOut : laidOutB Try.prog = true := by kernel_rfl

def shSym : List Sh := [.b, .i .i64]
def shProd : List Sh := [.i .i64, .sl 2 16 shSym]
def shCnf : List Sh := [.i .i64, .sl 2 32 shProd]
theorem has_sym {ds : List DVal} (h : HasL shSym ds) : ∃ s : Sym, ds = dSym s := by
  simp only [shSym, HasL, HasS] at h
  obtain ⟨_, _, rfl, ⟨b, rfl⟩, _, _, rfl, ⟨n, rfl⟩, rfl⟩ := h
  exact ⟨⟨b, n⟩, rfl⟩
theorem has_prod {ds : List DVal} (h : HasL shProd ds) : ∃ p : Prod, ds = dProd p := by
  simp only [shProd, HasL, HasS] at h
  obtain ⟨_, _, rfl, ⟨n, rfl⟩, _, _, rfl, ⟨es, rfl, he⟩, rfl⟩ := h
  obtain ⟨l, rfl⟩ := rows_form (fun e h => has_sym (he e h))
  exact ⟨⟨n, l⟩, rfl⟩
theorem has_cnf {ds : List DVal} (h : HasL shCnf ds) : ∃ c : Cnf, ds = dCnf c := by
  simp only [shCnf, HasL, HasS] at h
  obtain ⟨_, _, rfl, ⟨n, rfl⟩, _, _, rfl, ⟨es, rfl, he⟩, rfl⟩ := h
  obtain ⟨l, rfl⟩ := rows_form (fun e h => has_prod (he e h))
  exact ⟨⟨n, l⟩, rfl⟩

theorem reach_le {l : List Nat} (h : l.all (· ≤ reachBytes) = true) : ∀ x ∈ l, x ≤ 140737488355328 := fun x hx => by
  have := List.all_eq_true.1 h x hx
  have h2 := reachBytes_lt
  simp only [decide_eq_true_eq] at this
  omega

theorem has_int {k : IntKind} {ds : List DVal} (h : HasL [.i k] ds) : ∃ n : Int, ds = [.int k n] := by
  simp only [HasL, HasS] at h
  obtain ⟨_, _, rfl, ⟨n, rfl⟩, rfl⟩ := h
  exact ⟨n, rfl⟩
theorem has_bool {ds : List DVal} (h : HasL [.b] ds) : ∃ b : Bool, ds = [.bool b] := by
  simp only [HasL, HasS] at h
  obtain ⟨_, _, rfl, ⟨n, rfl⟩, rfl⟩ := h
  exact ⟨n, rfl⟩
end Go.Proofs.Ytihkcegelghcpaa
