/-
  No cell of these rows narrows 'for every input' (looked for: loops, veiled, ifaces, maps, wideKeys, modest, calm, conditions, laid).
  DERIVED. THE GIVEN ROWS OF THIS SEAT. 3 by the template 'for every input the law returns true; each argument reads behind the call as it read before'; 0 by the template 'total and deterministic' (their statements: YtnmbgbeajacpfaaTotals.lean).
  GIVEN WITH THE SEED: the statements are not yours to turn. If you find one false, say at which input.
  Laid BY PROGRAM, IN A SANDBOX (cutbox-rows.mjs): the forced cells as the released guide's own fill.sh prints them over the translation 63cc6e9410f638a1… (all of the seat's roots in one cut). By AI agents, Wed Nov 11 2026. No macro, syntax, notation, axiom, sorry.
-/
import Derived.Test.YtnmbgbeajacpfaaChecked
import GoSem.Claim
import GoSem.ClaimJoined
import GoSem.ClaimMapViews
import Derived.JoinedTies
import Derived.KernelRfl
namespace Go.Proofs.Ytnmbgbeajacpfaa
/- THE CELL 'sum', in the pinned program and in every row, IS THE sha256 OF THE DUMP (.gsa) THAT YtnmbgbeajacpfaaProg.lean LOADS. Nothing in Lean hashes anything: it is a label: what it is worth is what the hold of that sum in a sandbox is worth. -/
noncomputable def Try.pinned : Pinned := { name := "ytnmbgbeajacpfaa", sum := "63cc6e9410f638a1aa15a3fba3efee663a6482e53709dc2eea6da4c6184ef857", checked := Try.checked }
namespace Rows
def none {H : Type} : Left H := { results := [], args := [] }

/-- 'bywaylaw10.BoxChecks': WHATEVER THE INPUT: true; the input reads as it did. -/
def boxChecksSpec : ChangeSpec := { name := "boxChecks", fn := fun _ => fun
  | [d] => { results := [.lit (.bool true)], args := [d] }
  | _ => none }
def boxChecksRow : OpenClaim := { program := "ytnmbgbeajacpfaa", sum := "63cc6e9410f638a1aa15a3fba3efee663a6482e53709dc2eea6da4c6184ef857", func := "byway/bywaylaw10.BoxChecks", spec := "boxChecks", inPlace := ["internal/abi.NoEscape", "internal/bytealg.MakeNoZero"], unfollowed := true, recurses := true, plainKeys := false, apart := false }
def BoxChecksSaid : Prop := boxChecksRow.holds Try.pinned (OpenSpec.ofChange boxChecksSpec)

/-- ITS FALSE NEIGHBOUR: 'it returns false'. Refute it at one input. -/
def boxChecksWrong : ChangeSpec := { name := "boxChecks", fn := fun _ => fun
  | [d] => { results := [.lit (.bool false)], args := [d] }
  | _ => none }
def BoxChecksWrongFalsely : Prop := boxChecksRow.holds Try.pinned (OpenSpec.ofChange boxChecksWrong)

/-- 'bywaylaw10.BoxSteps': WHATEVER THE INPUT: true; the input reads as it did. -/
def boxStepsSpec : ChangeSpec := { name := "boxSteps", fn := fun _ => fun
  | [d1, d2, d3] => { results := [.lit (.bool true)], args := [d1, d2, d3] }
  | _ => none }
def boxStepsRow : OpenClaim := { program := "ytnmbgbeajacpfaa", sum := "63cc6e9410f638a1aa15a3fba3efee663a6482e53709dc2eea6da4c6184ef857", func := "byway/bywaylaw10.BoxSteps", spec := "boxSteps", inPlace := ["internal/abi.NoEscape", "internal/bytealg.MakeNoZero"], unfollowed := true, recurses := true, plainKeys := false, apart := false }
def BoxStepsSaid : Prop := boxStepsRow.holds Try.pinned (OpenSpec.ofChange boxStepsSpec)

/-- ITS FALSE NEIGHBOUR: 'it returns false'. Refute it at one input. -/
def boxStepsWrong : ChangeSpec := { name := "boxSteps", fn := fun _ => fun
  | [d1, d2, d3] => { results := [.lit (.bool false)], args := [d1, d2, d3] }
  | _ => none }
def BoxStepsWrongFalsely : Prop := boxStepsRow.holds Try.pinned (OpenSpec.ofChange boxStepsWrong)

/-- 'bywaylaw10.BoxHas': WHATEVER THE INPUT: true; the input reads as it did. -/
def boxHasSpec : ChangeSpec := { name := "boxHas", fn := fun _ => fun
  | [d1, d2] => { results := [.lit (.bool true)], args := [d1, d2] }
  | _ => none }
def boxHasRow : OpenClaim := { program := "ytnmbgbeajacpfaa", sum := "63cc6e9410f638a1aa15a3fba3efee663a6482e53709dc2eea6da4c6184ef857", func := "byway/bywaylaw10.BoxHas", spec := "boxHas", inPlace := ["internal/abi.NoEscape", "internal/bytealg.MakeNoZero"], unfollowed := true, recurses := true, plainKeys := false, apart := false }
def BoxHasSaid : Prop := boxHasRow.holds Try.pinned (OpenSpec.ofChange boxHasSpec)

/-- ITS FALSE NEIGHBOUR: 'it returns false'. Refute it at one input. -/
def boxHasWrong : ChangeSpec := { name := "boxHas", fn := fun _ => fun
  | [d1, d2] => { results := [.lit (.bool false)], args := [d1, d2] }
  | _ => none }
def BoxHasWrongFalsely : Prop := boxHasRow.holds Try.pinned (OpenSpec.ofChange boxHasWrong)

/- THE SECOND FORM. 'bulk': how many values and letters a reading holds, each counted each time it is reached (what is shared counts as often as it is met; a slice's spare places count too). A statement '..UptoSaid' is the law's where the arguments, and the package variables that the reading takes, are together of bulk at most 1048576: NARROWER than '..Said'. Prove '..Said' where nothing that the law and all that it calls make is longer than what came in: it says more and counts as full. Else prove '..UptoSaid'. A law counts once. -/
mutual
def uptoBulk {H : Type} : DataW H → Nat
  | .lit (.string bytes) => bytes.length + 1
  | .lit _ => 1
  | .nil => 1
  | .ptr d => uptoBulk d + 1
  | .slice elems spare => uptoBulkAll elems + uptoBulkAll spare + 1
  | .agg parts => uptoBulkAll parts + 1
  | .iface _ d => uptoBulk d + 1
  | .map entries => uptoBulkEntries entries + 1
  | .held _ => 1
def uptoBulkAll {H : Type} : List (DataW H) → Nat
  | [] => 0
  | d :: r => uptoBulk d + uptoBulkAll r
def uptoBulkEntries {H : Type} : List (Lit × DataW H) → Nat
  | [] => 0
  | x :: r => uptoBulkEntry x + uptoBulkEntries r
def uptoBulkEntry {H : Type} : Lit × DataW H → Nat
  | (.string bytes, d) => bytes.length + uptoBulk d + 1
  | (_, d) => uptoBulk d + 1
 end
def uptoSmall : (H : Type) → List (DataW H) → Bool := fun _ ds => decide (uptoBulkAll ds ≤ 1048576)
def OpenSpec.upto (s : _root_.Go.ChangeSpec) : _root_.Go.OpenSpec := { _root_.Go.OpenSpec.ofChange s with cond := some uptoSmall }

/-- 'bywaylaw10.BoxChecks', WHERE WHAT IT READS IS OF BULK AT MOST 1048576: true; the input reads as it did. -/
def boxChecksUptoRow : OpenClaim := { program := "ytnmbgbeajacpfaa", sum := "63cc6e9410f638a1aa15a3fba3efee663a6482e53709dc2eea6da4c6184ef857", func := "byway/bywaylaw10.BoxChecks", spec := "boxChecks", inPlace := ["internal/abi.NoEscape", "internal/bytealg.MakeNoZero"], unfollowed := true, recurses := true, plainKeys := false, apart := false, narrowed := true }
def BoxChecksUptoSaid : Prop := boxChecksUptoRow.holds Try.pinned (OpenSpec.upto boxChecksSpec)

/-- 'bywaylaw10.BoxSteps', WHERE WHAT IT READS IS OF BULK AT MOST 1048576: true; the input reads as it did. -/
def boxStepsUptoRow : OpenClaim := { program := "ytnmbgbeajacpfaa", sum := "63cc6e9410f638a1aa15a3fba3efee663a6482e53709dc2eea6da4c6184ef857", func := "byway/bywaylaw10.BoxSteps", spec := "boxSteps", inPlace := ["internal/abi.NoEscape", "internal/bytealg.MakeNoZero"], unfollowed := true, recurses := true, plainKeys := false, apart := false, narrowed := true }
def BoxStepsUptoSaid : Prop := boxStepsUptoRow.holds Try.pinned (OpenSpec.upto boxStepsSpec)

/-- 'bywaylaw10.BoxHas', WHERE WHAT IT READS IS OF BULK AT MOST 1048576: true; the input reads as it did. -/
def boxHasUptoRow : OpenClaim := { program := "ytnmbgbeajacpfaa", sum := "63cc6e9410f638a1aa15a3fba3efee663a6482e53709dc2eea6da4c6184ef857", func := "byway/bywaylaw10.BoxHas", spec := "boxHas", inPlace := ["internal/abi.NoEscape", "internal/bytealg.MakeNoZero"], unfollowed := true, recurses := true, plainKeys := false, apart := false, narrowed := true }
def BoxHasUptoSaid : Prop := boxHasUptoRow.holds Try.pinned (OpenSpec.upto boxHasSpec)

end Rows
end Go.Proofs.Ytnmbgbeajacpfaa
