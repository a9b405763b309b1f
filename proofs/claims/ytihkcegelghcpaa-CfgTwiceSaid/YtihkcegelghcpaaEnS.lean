/- The data machine, second make, part S: which definitions the walk's simp opens; small rules. -/
import Derived.Test.YtihkcegelghcpaaEnP
set_option linter.unusedSimpArgs false
set_option linter.unusedVariables false
namespace Go.Dm
attribute [simp] kD_f kG_f callG wkA isE wk1 wkL wk mapOf ixV sliceP annAt cellsK isAggD Op.operands Call.operands strip okG okL okOp stripE pickV pickOK dOpD dOpG putS getS ev ofV ofV1 nPre nVal bPre bVal cellsAt rowsOf findE setE delE callee gSlot gB gOK dstOK idxVal dbin cellsD splice fillD tPlace plainD oneO isCur argS ckAll ckOf eqCs eqC Dthen Dblock Dend resD resL resOne wfL wfD

@[simp] theorem inR64 (n : Int) : inR .i64 n ↔ -9223372036854775808 ≤ n ∧ n ≤ 9223372036854775807 := Iff.rfl
theorem wrap64_in {n : Int} (h1 : -9223372036854775808 ≤ n) (h2 : n ≤ 9223372036854775807) : IntKind.i64.wrap n = n := by
  simp only [IntKind.wrap, IntKind.bits, IntKind.signed]
  simp
  split <;> omega

theorem at_lt {α : Type} {l : List α} {k : Nat} (h : k < l.length) : ∃ x, l[k]? = some x ∧ l[k] = x := ⟨l[k], List.getElem?_eq_getElem h, rfl⟩

def isB : DVal → Bool
  | .bool _ => true
  | _ => false
def condB : DVal → Bool
  | .bool b => b
  | _ => false
attribute [simp] isB condB
theorem DW_if {P : Program} {B : Base} {Q : Exit → DS → Prop} {s : DS} {c : Operand} {x y : Code} (h : isB (ev s.slots c) = true) (ht : condB (ev s.slots c) = true → DW P B x Q s) (hf : condB (ev s.slots c) = false → DW P B y Q s) : DW P B (.cond c x y) Q s := by
  cases he : ev s.slots c <;> rw [he] at h <;> simp at h
  rename_i b
  rw [he] at ht hf
  exact DW_cond he (fun hb => ht hb) (fun hb => hf hb)
end Go.Dm
