/-
  No cell of these rows narrows 'for every input' (looked for: loops, veiled, ifaces, maps, wideKeys, modest, calm, conditions, laid).
  DERIVED. THE GIVEN ROWS OF THIS SEAT. 10 by the template 'for every input the law returns true; each argument reads behind the call as it read before'; 0 by the template 'total and deterministic' (their statements: YtihkcegelghcpaaTotals.lean).
  GIVEN WITH THE SEED: the statements are not yours to turn. If you find one false, say at which input.
  Laid BY PROGRAM, IN A SANDBOX (cutbox-rows.mjs): the forced cells as the released guide's own fill.sh prints them over the translation 89c2cb6f294582d0… (all of the seat's roots in one cut). By AI agents, Wed Nov 11 2026. No macro, syntax, notation, axiom, sorry.
-/
import Derived.Test.YtihkcegelghcpaaChecked
import GoSem.Claim
import GoSem.ClaimJoined
import GoSem.ClaimMapViews
import Derived.JoinedTies
import Derived.KernelRfl
namespace Go.Proofs.Ytihkcegelghcpaa
/- THE CELL 'sum', in the pinned program and in every row, IS THE sha256 OF THE DUMP (.gsa) THAT YtihkcegelghcpaaProg.lean LOADS. Nothing in Lean hashes anything: it is a label: what it is worth is what the hold of that sum in a sandbox is worth. -/
noncomputable def Try.pinned : Pinned := { name := "ytihkcegelghcpaa", sum := "89c2cb6f294582d014ef8306aee312bd4bbe672769ddcc16887a8b7ced789559", checked := Try.checked }
namespace Rows
def none {H : Type} : Left H := { results := [], args := [] }

/-- 'bywaylaw14.WcnfParts': WHATEVER THE INPUT: true; the input reads as it did. -/
def wcnfPartsSpec : ChangeSpec := { name := "wcnfParts", fn := fun _ => fun
  | [d] => { results := [.lit (.bool true)], args := [d] }
  | _ => none }
def wcnfPartsRow : OpenClaim := { program := "ytihkcegelghcpaa", sum := "89c2cb6f294582d014ef8306aee312bd4bbe672769ddcc16887a8b7ced789559", func := "byway/bywaylaw14.WcnfParts", spec := "wcnfParts", unfollowed := true, recurses := true, plainKeys := false, apart := false }
def WcnfPartsSaid : Prop := wcnfPartsRow.holds Try.pinned (OpenSpec.ofChange wcnfPartsSpec)

/-- ITS FALSE NEIGHBOUR: 'it returns false'. Refute it at one input. -/
def wcnfPartsWrong : ChangeSpec := { name := "wcnfParts", fn := fun _ => fun
  | [d] => { results := [.lit (.bool false)], args := [d] }
  | _ => none }
def WcnfPartsWrongFalsely : Prop := wcnfPartsRow.holds Try.pinned (OpenSpec.ofChange wcnfPartsWrong)

/-- 'bywaylaw12.CfgHeads': WHATEVER THE INPUT: true; the input reads as it did. -/
def cfgHeadsSpec : ChangeSpec := { name := "cfgHeads", fn := fun _ => fun
  | [d1, d2, d3] => { results := [.lit (.bool true)], args := [d1, d2, d3] }
  | _ => none }
def cfgHeadsRow : OpenClaim := { program := "ytihkcegelghcpaa", sum := "89c2cb6f294582d014ef8306aee312bd4bbe672769ddcc16887a8b7ced789559", func := "byway/bywaylaw12.CfgHeads", spec := "cfgHeads", unfollowed := true, recurses := true, plainKeys := false, apart := false }
def CfgHeadsSaid : Prop := cfgHeadsRow.holds Try.pinned (OpenSpec.ofChange cfgHeadsSpec)

/-- ITS FALSE NEIGHBOUR: 'it returns false'. Refute it at one input. -/
def cfgHeadsWrong : ChangeSpec := { name := "cfgHeads", fn := fun _ => fun
  | [d1, d2, d3] => { results := [.lit (.bool false)], args := [d1, d2, d3] }
  | _ => none }
def CfgHeadsWrongFalsely : Prop := cfgHeadsRow.holds Try.pinned (OpenSpec.ofChange cfgHeadsWrong)

/-- 'bywaylaw14.WcnfOf': WHATEVER THE INPUT: true; the input reads as it did. -/
def wcnfOfSpec : ChangeSpec := { name := "wcnfOf", fn := fun _ => fun
  | [d] => { results := [.lit (.bool true)], args := [d] }
  | _ => none }
def wcnfOfRow : OpenClaim := { program := "ytihkcegelghcpaa", sum := "89c2cb6f294582d014ef8306aee312bd4bbe672769ddcc16887a8b7ced789559", func := "byway/bywaylaw14.WcnfOf", spec := "wcnfOf", unfollowed := true, recurses := true, plainKeys := false, apart := false }
def WcnfOfSaid : Prop := wcnfOfRow.holds Try.pinned (OpenSpec.ofChange wcnfOfSpec)

/-- ITS FALSE NEIGHBOUR: 'it returns false'. Refute it at one input. -/
def wcnfOfWrong : ChangeSpec := { name := "wcnfOf", fn := fun _ => fun
  | [d] => { results := [.lit (.bool false)], args := [d] }
  | _ => none }
def WcnfOfWrongFalsely : Prop := wcnfOfRow.holds Try.pinned (OpenSpec.ofChange wcnfOfWrong)

/-- 'bywaylaw14.WcnfAgain': WHATEVER THE INPUT: true; the input reads as it did. -/
def wcnfAgainSpec : ChangeSpec := { name := "wcnfAgain", fn := fun _ => fun
  | [d] => { results := [.lit (.bool true)], args := [d] }
  | _ => none }
def wcnfAgainRow : OpenClaim := { program := "ytihkcegelghcpaa", sum := "89c2cb6f294582d014ef8306aee312bd4bbe672769ddcc16887a8b7ced789559", func := "byway/bywaylaw14.WcnfAgain", spec := "wcnfAgain", unfollowed := true, recurses := true, plainKeys := false, apart := false }
def WcnfAgainSaid : Prop := wcnfAgainRow.holds Try.pinned (OpenSpec.ofChange wcnfAgainSpec)

/-- ITS FALSE NEIGHBOUR: 'it returns false'. Refute it at one input. -/
def wcnfAgainWrong : ChangeSpec := { name := "wcnfAgain", fn := fun _ => fun
  | [d] => { results := [.lit (.bool false)], args := [d] }
  | _ => none }
def WcnfAgainWrongFalsely : Prop := wcnfAgainRow.holds Try.pinned (OpenSpec.ofChange wcnfAgainWrong)

/-- 'bywaylaw12.CfgChecks': WHATEVER THE INPUT: true; the input reads as it did. -/
def cfgChecksSpec : ChangeSpec := { name := "cfgChecks", fn := fun _ => fun
  | [d] => { results := [.lit (.bool true)], args := [d] }
  | _ => none }
def cfgChecksRow : OpenClaim := { program := "ytihkcegelghcpaa", sum := "89c2cb6f294582d014ef8306aee312bd4bbe672769ddcc16887a8b7ced789559", func := "byway/bywaylaw12.CfgChecks", spec := "cfgChecks", unfollowed := true, recurses := true, plainKeys := false, apart := false }
def CfgChecksSaid : Prop := cfgChecksRow.holds Try.pinned (OpenSpec.ofChange cfgChecksSpec)

/-- ITS FALSE NEIGHBOUR: 'it returns false'. Refute it at one input. -/
def cfgChecksWrong : ChangeSpec := { name := "cfgChecks", fn := fun _ => fun
  | [d] => { results := [.lit (.bool false)], args := [d] }
  | _ => none }
def CfgChecksWrongFalsely : Prop := cfgChecksRow.holds Try.pinned (OpenSpec.ofChange cfgChecksWrong)

/-- 'bywaylaw12.CfgSorts': WHATEVER THE INPUT: true; the input reads as it did. -/
def cfgSortsSpec : ChangeSpec := { name := "cfgSorts", fn := fun _ => fun
  | [d] => { results := [.lit (.bool true)], args := [d] }
  | _ => none }
def cfgSortsRow : OpenClaim := { program := "ytihkcegelghcpaa", sum := "89c2cb6f294582d014ef8306aee312bd4bbe672769ddcc16887a8b7ced789559", func := "byway/bywaylaw12.CfgSorts", spec := "cfgSorts", unfollowed := true, recurses := true, plainKeys := false, apart := false }
def CfgSortsSaid : Prop := cfgSortsRow.holds Try.pinned (OpenSpec.ofChange cfgSortsSpec)

/-- ITS FALSE NEIGHBOUR: 'it returns false'. Refute it at one input. -/
def cfgSortsWrong : ChangeSpec := { name := "cfgSorts", fn := fun _ => fun
  | [d] => { results := [.lit (.bool false)], args := [d] }
  | _ => none }
def CfgSortsWrongFalsely : Prop := cfgSortsRow.holds Try.pinned (OpenSpec.ofChange cfgSortsWrong)

/-- 'bywaylaw12.CfgTwice': WHATEVER THE INPUT: true; the input reads as it did. -/
def cfgTwiceSpec : ChangeSpec := { name := "cfgTwice", fn := fun _ => fun
  | [d] => { results := [.lit (.bool true)], args := [d] }
  | _ => none }
def cfgTwiceRow : OpenClaim := { program := "ytihkcegelghcpaa", sum := "89c2cb6f294582d014ef8306aee312bd4bbe672769ddcc16887a8b7ced789559", func := "byway/bywaylaw12.CfgTwice", spec := "cfgTwice", unfollowed := true, recurses := true, plainKeys := false, apart := false }
def CfgTwiceSaid : Prop := cfgTwiceRow.holds Try.pinned (OpenSpec.ofChange cfgTwiceSpec)

/-- ITS FALSE NEIGHBOUR: 'it returns false'. Refute it at one input. -/
def cfgTwiceWrong : ChangeSpec := { name := "cfgTwice", fn := fun _ => fun
  | [d] => { results := [.lit (.bool false)], args := [d] }
  | _ => none }
def CfgTwiceWrongFalsely : Prop := cfgTwiceRow.holds Try.pinned (OpenSpec.ofChange cfgTwiceWrong)

/-- 'bywaylaw27.CheckWay': WHATEVER THE INPUT: true; the input reads as it did. -/
def checkWaySpec : ChangeSpec := { name := "checkWay", fn := fun _ => fun
  | [d] => { results := [.lit (.bool true)], args := [d] }
  | _ => none }
def checkWayRow : OpenClaim := { program := "ytihkcegelghcpaa", sum := "89c2cb6f294582d014ef8306aee312bd4bbe672769ddcc16887a8b7ced789559", func := "byway/bywaylaw27.CheckWay", spec := "checkWay", inPlace := ["internal/bytealg.abigen_runtime_cmpstring", "internal/abi.NoEscape"], unfollowed := true, recurses := true, plainKeys := false, apart := false }
def CheckWaySaid : Prop := checkWayRow.holds Try.pinned (OpenSpec.ofChange checkWaySpec)

/-- ITS FALSE NEIGHBOUR: 'it returns false'. Refute it at one input. -/
def checkWayWrong : ChangeSpec := { name := "checkWay", fn := fun _ => fun
  | [d] => { results := [.lit (.bool false)], args := [d] }
  | _ => none }
def CheckWayWrongFalsely : Prop := checkWayRow.holds Try.pinned (OpenSpec.ofChange checkWayWrong)

/-- 'bywaylaw14.WcnfKeeps': WHATEVER THE INPUT: true; the input reads as it did. -/
def wcnfKeepsSpec : ChangeSpec := { name := "wcnfKeeps", fn := fun _ => fun
  | [d] => { results := [.lit (.bool true)], args := [d] }
  | _ => none }
def wcnfKeepsRow : OpenClaim := { program := "ytihkcegelghcpaa", sum := "89c2cb6f294582d014ef8306aee312bd4bbe672769ddcc16887a8b7ced789559", func := "byway/bywaylaw14.WcnfKeeps", spec := "wcnfKeeps", unfollowed := true, recurses := true, plainKeys := false, apart := false }
def WcnfKeepsSaid : Prop := wcnfKeepsRow.holds Try.pinned (OpenSpec.ofChange wcnfKeepsSpec)

/-- ITS FALSE NEIGHBOUR: 'it returns false'. Refute it at one input. -/
def wcnfKeepsWrong : ChangeSpec := { name := "wcnfKeeps", fn := fun _ => fun
  | [d] => { results := [.lit (.bool false)], args := [d] }
  | _ => none }
def WcnfKeepsWrongFalsely : Prop := wcnfKeepsRow.holds Try.pinned (OpenSpec.ofChange wcnfKeepsWrong)

/-- 'bywaylaw12.CfgRules': WHATEVER THE INPUT: true; the input reads as it did. -/
def cfgRulesSpec : ChangeSpec := { name := "cfgRules", fn := fun _ => fun
  | [d1, d2, d3] => { results := [.lit (.bool true)], args := [d1, d2, d3] }
  | _ => none }
def cfgRulesRow : OpenClaim := { program := "ytihkcegelghcpaa", sum := "89c2cb6f294582d014ef8306aee312bd4bbe672769ddcc16887a8b7ced789559", func := "byway/bywaylaw12.CfgRules", spec := "cfgRules", inPlace := ["internal/abi.NoEscape", "internal/bytealg.MakeNoZero"], unfollowed := true, recurses := true, plainKeys := false, apart := false }
def CfgRulesSaid : Prop := cfgRulesRow.holds Try.pinned (OpenSpec.ofChange cfgRulesSpec)

/-- ITS FALSE NEIGHBOUR: 'it returns false'. Refute it at one input. -/
def cfgRulesWrong : ChangeSpec := { name := "cfgRules", fn := fun _ => fun
  | [d1, d2, d3] => { results := [.lit (.bool false)], args := [d1, d2, d3] }
  | _ => none }
def CfgRulesWrongFalsely : Prop := cfgRulesRow.holds Try.pinned (OpenSpec.ofChange cfgRulesWrong)

/- THE SECOND FORM. 'bulk': how many values and letters a reading holds, each counted each time it is reached (what is shared counts as often as it is met; a slice's spare places count too). A statement '..UptoSaid' is the law's where the arguments, and the package variables that the reading takes, are together of bulk at most 1048576: NARROWER than '..Said'. Prove '..Said' where nothing that the law and all that it calls make is longer than what came in: it says more and counts as full. Else prove '..UptoSaid'. A law counts once. -/
mutual
def uptoBulk {H : Type} : DataW H → Nat
  | .lit (.string bytes) => bytes.length + 1
  | .lit _ => 1
  | .nil => 1
  | .ptr d => uptoBulk d + 1
  | .slice elems spare => uptoBulkAll elems + uptoBulkAll spare + 1
  | .agg parts => uptoBulkAll parts + 1
  | .iface _ d => uptoBulk d + 1
  | .map entries => uptoBulkEntries entries + 1
  | .held _ => 1
def uptoBulkAll {H : Type} : List (DataW H) → Nat
  | [] => 0
  | d :: r => uptoBulk d + uptoBulkAll r
def uptoBulkEntries {H : Type} : List (Lit × DataW H) → Nat
  | [] => 0
  | x :: r => uptoBulkEntry x + uptoBulkEntries r
def uptoBulkEntry {H : Type} : Lit × DataW H → Nat
  | (.string bytes, d) => bytes.length + uptoBulk d + 1
  | (_, d) => uptoBulk d + 1
 end
def uptoSmall : (H : Type) → List (DataW H) → Bool := fun _ ds => decide (uptoBulkAll ds ≤ 1048576)
def OpenSpec.upto (s : _root_.Go.ChangeSpec) : _root_.Go.OpenSpec := { _root_.Go.OpenSpec.ofChange s with cond := some uptoSmall }

/-- 'bywaylaw14.WcnfParts', WHERE WHAT IT READS IS OF BULK AT MOST 1048576: true; the input reads as it did. -/
def wcnfPartsUptoRow : OpenClaim := { program := "ytihkcegelghcpaa", sum := "89c2cb6f294582d014ef8306aee312bd4bbe672769ddcc16887a8b7ced789559", func := "byway/bywaylaw14.WcnfParts", spec := "wcnfParts", unfollowed := true, recurses := true, plainKeys := false, apart := false, narrowed := true }
def WcnfPartsUptoSaid : Prop := wcnfPartsUptoRow.holds Try.pinned (OpenSpec.upto wcnfPartsSpec)

/-- 'bywaylaw12.CfgHeads', WHERE WHAT IT READS IS OF BULK AT MOST 1048576: true; the input reads as it did. -/
def cfgHeadsUptoRow : OpenClaim := { program := "ytihkcegelghcpaa", sum := "89c2cb6f294582d014ef8306aee312bd4bbe672769ddcc16887a8b7ced789559", func := "byway/bywaylaw12.CfgHeads", spec := "cfgHeads", unfollowed := true, recurses := true, plainKeys := false, apart := false, narrowed := true }
def CfgHeadsUptoSaid : Prop := cfgHeadsUptoRow.holds Try.pinned (OpenSpec.upto cfgHeadsSpec)

/-- 'bywaylaw14.WcnfOf', WHERE WHAT IT READS IS OF BULK AT MOST 1048576: true; the input reads as it did. -/
def wcnfOfUptoRow : OpenClaim := { program := "ytihkcegelghcpaa", sum := "89c2cb6f294582d014ef8306aee312bd4bbe672769ddcc16887a8b7ced789559", func := "byway/bywaylaw14.WcnfOf", spec := "wcnfOf", unfollowed := true, recurses := true, plainKeys := false, apart := false, narrowed := true }
def WcnfOfUptoSaid : Prop := wcnfOfUptoRow.holds Try.pinned (OpenSpec.upto wcnfOfSpec)

/-- 'bywaylaw14.WcnfAgain', WHERE WHAT IT READS IS OF BULK AT MOST 1048576: true; the input reads as it did. -/
def wcnfAgainUptoRow : OpenClaim := { program := "ytihkcegelghcpaa", sum := "89c2cb6f294582d014ef8306aee312bd4bbe672769ddcc16887a8b7ced789559", func := "byway/bywaylaw14.WcnfAgain", spec := "wcnfAgain", unfollowed := true, recurses := true, plainKeys := false, apart := false, narrowed := true }
def WcnfAgainUptoSaid : Prop := wcnfAgainUptoRow.holds Try.pinned (OpenSpec.upto wcnfAgainSpec)

/-- 'bywaylaw12.CfgChecks', WHERE WHAT IT READS IS OF BULK AT MOST 1048576: true; the input reads as it did. -/
def cfgChecksUptoRow : OpenClaim := { program := "ytihkcegelghcpaa", sum := "89c2cb6f294582d014ef8306aee312bd4bbe672769ddcc16887a8b7ced789559", func := "byway/bywaylaw12.CfgChecks", spec := "cfgChecks", unfollowed := true, recurses := true, plainKeys := false, apart := false, narrowed := true }
def CfgChecksUptoSaid : Prop := cfgChecksUptoRow.holds Try.pinned (OpenSpec.upto cfgChecksSpec)

/-- 'bywaylaw12.CfgSorts', WHERE WHAT IT READS IS OF BULK AT MOST 1048576: true; the input reads as it did. -/
def cfgSortsUptoRow : OpenClaim := { program := "ytihkcegelghcpaa", sum := "89c2cb6f294582d014ef8306aee312bd4bbe672769ddcc16887a8b7ced789559", func := "byway/bywaylaw12.CfgSorts", spec := "cfgSorts", unfollowed := true, recurses := true, plainKeys := false, apart := false, narrowed := true }
def CfgSortsUptoSaid : Prop := cfgSortsUptoRow.holds Try.pinned (OpenSpec.upto cfgSortsSpec)

/-- 'bywaylaw12.CfgTwice', WHERE WHAT IT READS IS OF BULK AT MOST 1048576: true; the input reads as it did. -/
def cfgTwiceUptoRow : OpenClaim := { program := "ytihkcegelghcpaa", sum := "89c2cb6f294582d014ef8306aee312bd4bbe672769ddcc16887a8b7ced789559", func := "byway/bywaylaw12.CfgTwice", spec := "cfgTwice", unfollowed := true, recurses := true, plainKeys := false, apart := false, narrowed := true }
def CfgTwiceUptoSaid : Prop := cfgTwiceUptoRow.holds Try.pinned (OpenSpec.upto cfgTwiceSpec)

/-- 'bywaylaw27.CheckWay', WHERE WHAT IT READS IS OF BULK AT MOST 1048576: true; the input reads as it did. -/
def checkWayUptoRow : OpenClaim := { program := "ytihkcegelghcpaa", sum := "89c2cb6f294582d014ef8306aee312bd4bbe672769ddcc16887a8b7ced789559", func := "byway/bywaylaw27.CheckWay", spec := "checkWay", inPlace := ["internal/bytealg.abigen_runtime_cmpstring", "internal/abi.NoEscape"], unfollowed := true, recurses := true, plainKeys := false, apart := false, narrowed := true }
def CheckWayUptoSaid : Prop := checkWayUptoRow.holds Try.pinned (OpenSpec.upto checkWaySpec)

/-- 'bywaylaw14.WcnfKeeps', WHERE WHAT IT READS IS OF BULK AT MOST 1048576: true; the input reads as it did. -/
def wcnfKeepsUptoRow : OpenClaim := { program := "ytihkcegelghcpaa", sum := "89c2cb6f294582d014ef8306aee312bd4bbe672769ddcc16887a8b7ced789559", func := "byway/bywaylaw14.WcnfKeeps", spec := "wcnfKeeps", unfollowed := true, recurses := true, plainKeys := false, apart := false, narrowed := true }
def WcnfKeepsUptoSaid : Prop := wcnfKeepsUptoRow.holds Try.pinned (OpenSpec.upto wcnfKeepsSpec)

/-- 'bywaylaw12.CfgRules', WHERE WHAT IT READS IS OF BULK AT MOST 1048576: true; the input reads as it did. -/
def cfgRulesUptoRow : OpenClaim := { program := "ytihkcegelghcpaa", sum := "89c2cb6f294582d014ef8306aee312bd4bbe672769ddcc16887a8b7ced789559", func := "byway/bywaylaw12.CfgRules", spec := "cfgRules", inPlace := ["internal/abi.NoEscape", "internal/bytealg.MakeNoZero"], unfollowed := true, recurses := true, plainKeys := false, apart := false, narrowed := true }
def CfgRulesUptoSaid : Prop := cfgRulesUptoRow.holds Try.pinned (OpenSpec.upto cfgRulesSpec)

end Rows
end Go.Proofs.Ytihkcegelghcpaa
