/-
  No cell of these rows narrows 'for every input' (looked for: loops, veiled, ifaces, maps, wideKeys, modest, calm, conditions, laid).
  DERIVED. THE GIVEN ROWS OF THIS SEAT. 7 by the template 'for every input the law returns true; each argument reads behind the call as it read before'; 0 by the template 'total and deterministic' (their statements: YtchgnpnbcjflcaaGreatTotals.lean).
  GIVEN WITH THE SEED: the statements are not yours to turn. If you find one false, say at which input.
  Laid BY PROGRAM, IN A SANDBOX (cutbox-rows.mjs): the forced cells as the released guide's own fill.sh prints them over the translation 65f703c237b93288… (all of the seat's roots in one cut). By AI agents, Wed Nov 11 2026. No macro, syntax, notation, axiom, sorry.
-/
import Derived.Test.YtchgnpnbcjflcaaGreatChecked
import GoSem.Claim
import GoSem.ClaimJoined
import GoSem.ClaimMapViews
import Derived.JoinedTies
import Derived.KernelRfl
namespace Go.Proofs.YtchgnpnbcjflcaaGreat
/- THE CELL 'sum', in the pinned program and in every row, IS THE sha256 OF THE DUMP (.gsa) THAT YtchgnpnbcjflcaaGreatProg.lean LOADS. Nothing in Lean hashes anything: it is a label: what it is worth is what the hold of that sum in a sandbox is worth. -/
noncomputable def Tryz.pinned : Pinned := { name := "ytchgnpnbcjflcaagreat", sum := "65f703c237b93288618205430a46f6e71fee207572520220806cfabc55f76996", checked := Tryz.checked }
namespace Rows
def none {H : Type} : Left H := { results := [], args := [] }

/-- 'bywaylaw12.CfgOf': WHATEVER THE INPUT: true; the input reads as it did. -/
def cfgOfSpec : ChangeSpec := { name := "cfgOf", fn := fun _ => fun
  | [d] => { results := [.lit (.bool true)], args := [d] }
  | _ => none }
def cfgOfRow : OpenClaim := { program := "ytchgnpnbcjflcaagreat", sum := "65f703c237b93288618205430a46f6e71fee207572520220806cfabc55f76996", func := "byway/bywaylaw12.CfgOf", spec := "cfgOf", inPlace := ["internal/abi.NoEscape", "internal/bytealg.MakeNoZero"], unfollowed := true, recurses := true, plainKeys := false, apart := false }
def CfgOfSaid : Prop := cfgOfRow.holds Tryz.pinned (OpenSpec.ofChange cfgOfSpec)

/-- ITS FALSE NEIGHBOUR: 'it returns false'. Refute it at one input. -/
def cfgOfWrong : ChangeSpec := { name := "cfgOf", fn := fun _ => fun
  | [d] => { results := [.lit (.bool false)], args := [d] }
  | _ => none }
def CfgOfWrongFalsely : Prop := cfgOfRow.holds Tryz.pinned (OpenSpec.ofChange cfgOfWrong)

/-- 'bywaylaw14.WcnfNew': WHATEVER THE INPUT: true; the input reads as it did. -/
def wcnfNewSpec : ChangeSpec := { name := "wcnfNew", fn := fun _ => fun
  | [d] => { results := [.lit (.bool true)], args := [d] }
  | _ => none }
def wcnfNewRow : OpenClaim := { program := "ytchgnpnbcjflcaagreat", sum := "65f703c237b93288618205430a46f6e71fee207572520220806cfabc55f76996", func := "byway/bywaylaw14.WcnfNew", spec := "wcnfNew", inPlace := ["internal/abi.NoEscape", "internal/bytealg.MakeNoZero"], unfollowed := true, recurses := true, plainKeys := false, apart := false }
def WcnfNewSaid : Prop := wcnfNewRow.holds Tryz.pinned (OpenSpec.ofChange wcnfNewSpec)

/-- ITS FALSE NEIGHBOUR: 'it returns false'. Refute it at one input. -/
def wcnfNewWrong : ChangeSpec := { name := "wcnfNew", fn := fun _ => fun
  | [d] => { results := [.lit (.bool false)], args := [d] }
  | _ => none }
def WcnfNewWrongFalsely : Prop := wcnfNewRow.holds Tryz.pinned (OpenSpec.ofChange wcnfNewWrong)

/-- 'bywaylaw27.CheckTree': WHATEVER THE INPUT: true; the input reads as it did. -/
def checkTreeSpec : ChangeSpec := { name := "checkTree", fn := fun _ => fun
  | [d1, d2, d3, d4] => { results := [.lit (.bool true)], args := [d1, d2, d3, d4] }
  | _ => none }
def checkTreeRow : OpenClaim := { program := "ytchgnpnbcjflcaagreat", sum := "65f703c237b93288618205430a46f6e71fee207572520220806cfabc55f76996", func := "byway/bywaylaw27.CheckTree", spec := "checkTree", inPlace := ["internal/abi.NoEscape", "internal/bytealg.MakeNoZero", "internal/bytealg.abigen_runtime_cmpstring"], unfollowed := true, recurses := true, plainKeys := false, apart := false }
def CheckTreeSaid : Prop := checkTreeRow.holds Tryz.pinned (OpenSpec.ofChange checkTreeSpec)

/-- ITS FALSE NEIGHBOUR: 'it returns false'. Refute it at one input. -/
def checkTreeWrong : ChangeSpec := { name := "checkTree", fn := fun _ => fun
  | [d1, d2, d3, d4] => { results := [.lit (.bool false)], args := [d1, d2, d3, d4] }
  | _ => none }
def CheckTreeWrongFalsely : Prop := checkTreeRow.holds Tryz.pinned (OpenSpec.ofChange checkTreeWrong)

/-- 'bywaylaw27.CheckWord': WHATEVER THE INPUT: true; the input reads as it did. -/
def checkWordSpec : ChangeSpec := { name := "checkWord", fn := fun _ => fun
  | [d1, d2, d3] => { results := [.lit (.bool true)], args := [d1, d2, d3] }
  | _ => none }
def checkWordRow : OpenClaim := { program := "ytchgnpnbcjflcaagreat", sum := "65f703c237b93288618205430a46f6e71fee207572520220806cfabc55f76996", func := "byway/bywaylaw27.CheckWord", spec := "checkWord", inPlace := ["internal/abi.NoEscape", "internal/bytealg.MakeNoZero", "internal/bytealg.abigen_runtime_cmpstring"], unfollowed := true, recurses := true, plainKeys := false, apart := false }
def CheckWordSaid : Prop := checkWordRow.holds Tryz.pinned (OpenSpec.ofChange checkWordSpec)

/-- ITS FALSE NEIGHBOUR: 'it returns false'. Refute it at one input. -/
def checkWordWrong : ChangeSpec := { name := "checkWord", fn := fun _ => fun
  | [d1, d2, d3] => { results := [.lit (.bool false)], args := [d1, d2, d3] }
  | _ => none }
def CheckWordWrongFalsely : Prop := checkWordRow.holds Tryz.pinned (OpenSpec.ofChange checkWordWrong)

/-- 'bywaylaw27.CheckRight': WHATEVER THE INPUT: true; the input reads as it did. -/
def checkRightSpec : ChangeSpec := { name := "checkRight", fn := fun _ => fun
  | [d] => { results := [.lit (.bool true)], args := [d] }
  | _ => none }
def checkRightRow : OpenClaim := { program := "ytchgnpnbcjflcaagreat", sum := "65f703c237b93288618205430a46f6e71fee207572520220806cfabc55f76996", func := "byway/bywaylaw27.CheckRight", spec := "checkRight", inPlace := ["internal/abi.NoEscape", "internal/bytealg.MakeNoZero", "internal/bytealg.abigen_runtime_cmpstring"], unfollowed := true, recurses := true, plainKeys := false, apart := false }
def CheckRightSaid : Prop := checkRightRow.holds Tryz.pinned (OpenSpec.ofChange checkRightSpec)

/-- ITS FALSE NEIGHBOUR: 'it returns false'. Refute it at one input. -/
def checkRightWrong : ChangeSpec := { name := "checkRight", fn := fun _ => fun
  | [d] => { results := [.lit (.bool false)], args := [d] }
  | _ => none }
def CheckRightWrongFalsely : Prop := checkRightRow.holds Tryz.pinned (OpenSpec.ofChange checkRightWrong)

/-- 'bywaylaw27.CheckSplits': WHATEVER THE INPUT: true; the input reads as it did. -/
def checkSplitsSpec : ChangeSpec := { name := "checkSplits", fn := fun _ => fun
  | [d] => { results := [.lit (.bool true)], args := [d] }
  | _ => none }
def checkSplitsRow : OpenClaim := { program := "ytchgnpnbcjflcaagreat", sum := "65f703c237b93288618205430a46f6e71fee207572520220806cfabc55f76996", func := "byway/bywaylaw27.CheckSplits", spec := "checkSplits", inPlace := ["internal/abi.NoEscape", "internal/bytealg.MakeNoZero", "internal/bytealg.abigen_runtime_cmpstring"], unfollowed := true, recurses := true, plainKeys := false, apart := false }
def CheckSplitsSaid : Prop := checkSplitsRow.holds Tryz.pinned (OpenSpec.ofChange checkSplitsSpec)

/-- ITS FALSE NEIGHBOUR: 'it returns false'. Refute it at one input. -/
def checkSplitsWrong : ChangeSpec := { name := "checkSplits", fn := fun _ => fun
  | [d] => { results := [.lit (.bool false)], args := [d] }
  | _ => none }
def CheckSplitsWrongFalsely : Prop := checkSplitsRow.holds Tryz.pinned (OpenSpec.ofChange checkSplitsWrong)

/-- 'bywaylaw27.CheckDerives': WHATEVER THE INPUT: true; the input reads as it did. -/
def checkDerivesSpec : ChangeSpec := { name := "checkDerives", fn := fun _ => fun
  | [d1, d2, d3] => { results := [.lit (.bool true)], args := [d1, d2, d3] }
  | _ => none }
def checkDerivesRow : OpenClaim := { program := "ytchgnpnbcjflcaagreat", sum := "65f703c237b93288618205430a46f6e71fee207572520220806cfabc55f76996", func := "byway/bywaylaw27.CheckDerives", spec := "checkDerives", inPlace := ["internal/abi.NoEscape", "internal/bytealg.MakeNoZero", "internal/bytealg.abigen_runtime_cmpstring"], unfollowed := true, recurses := true, plainKeys := false, apart := false }
def CheckDerivesSaid : Prop := checkDerivesRow.holds Tryz.pinned (OpenSpec.ofChange checkDerivesSpec)

/-- ITS FALSE NEIGHBOUR: 'it returns false'. Refute it at one input. -/
def checkDerivesWrong : ChangeSpec := { name := "checkDerives", fn := fun _ => fun
  | [d1, d2, d3] => { results := [.lit (.bool false)], args := [d1, d2, d3] }
  | _ => none }
def CheckDerivesWrongFalsely : Prop := checkDerivesRow.holds Tryz.pinned (OpenSpec.ofChange checkDerivesWrong)

/- THE SECOND FORM. 'bulk': how many values and letters a reading holds, each counted each time it is reached (what is shared counts as often as it is met; a slice's spare places count too). A statement '..UptoSaid' is the law's where the arguments, and the package variables that the reading takes, are together of bulk at most 1048576: NARROWER than '..Said'. Prove '..Said' where nothing that the law and all that it calls make is longer than what came in: it says more and counts as full. Else prove '..UptoSaid'. A law counts once. -/
mutual
def uptoBulk {H : Type} : DataW H → Nat
  | .lit (.string bytes) => bytes.length + 1
  | .lit _ => 1
  | .nil => 1
  | .ptr d => uptoBulk d + 1
  | .slice elems spare => uptoBulkAll elems + uptoBulkAll spare + 1
  | .agg parts => uptoBulkAll parts + 1
  | .iface _ d => uptoBulk d + 1
  | .map entries => uptoBulkEntries entries + 1
  | .held _ => 1
def uptoBulkAll {H : Type} : List (DataW H) → Nat
  | [] => 0
  | d :: r => uptoBulk d + uptoBulkAll r
def uptoBulkEntries {H : Type} : List (Lit × DataW H) → Nat
  | [] => 0
  | x :: r => uptoBulkEntry x + uptoBulkEntries r
def uptoBulkEntry {H : Type} : Lit × DataW H → Nat
  | (.string bytes, d) => bytes.length + uptoBulk d + 1
  | (_, d) => uptoBulk d + 1
 end
def uptoSmall : (H : Type) → List (DataW H) → Bool := fun _ ds => decide (uptoBulkAll ds ≤ 1048576)
def OpenSpec.upto (s : _root_.Go.ChangeSpec) : _root_.Go.OpenSpec := { _root_.Go.OpenSpec.ofChange s with cond := some uptoSmall }

/-- 'bywaylaw12.CfgOf', WHERE WHAT IT READS IS OF BULK AT MOST 1048576: true; the input reads as it did. -/
def cfgOfUptoRow : OpenClaim := { program := "ytchgnpnbcjflcaagreat", sum := "65f703c237b93288618205430a46f6e71fee207572520220806cfabc55f76996", func := "byway/bywaylaw12.CfgOf", spec := "cfgOf", inPlace := ["internal/abi.NoEscape", "internal/bytealg.MakeNoZero"], unfollowed := true, recurses := true, plainKeys := false, apart := false, narrowed := true }
def CfgOfUptoSaid : Prop := cfgOfUptoRow.holds Tryz.pinned (OpenSpec.upto cfgOfSpec)

/-- 'bywaylaw14.WcnfNew', WHERE WHAT IT READS IS OF BULK AT MOST 1048576: true; the input reads as it did. -/
def wcnfNewUptoRow : OpenClaim := { program := "ytchgnpnbcjflcaagreat", sum := "65f703c237b93288618205430a46f6e71fee207572520220806cfabc55f76996", func := "byway/bywaylaw14.WcnfNew", spec := "wcnfNew", inPlace := ["internal/abi.NoEscape", "internal/bytealg.MakeNoZero"], unfollowed := true, recurses := true, plainKeys := false, apart := false, narrowed := true }
def WcnfNewUptoSaid : Prop := wcnfNewUptoRow.holds Tryz.pinned (OpenSpec.upto wcnfNewSpec)

/-- 'bywaylaw27.CheckTree', WHERE WHAT IT READS IS OF BULK AT MOST 1048576: true; the input reads as it did. -/
def checkTreeUptoRow : OpenClaim := { program := "ytchgnpnbcjflcaagreat", sum := "65f703c237b93288618205430a46f6e71fee207572520220806cfabc55f76996", func := "byway/bywaylaw27.CheckTree", spec := "checkTree", inPlace := ["internal/abi.NoEscape", "internal/bytealg.MakeNoZero", "internal/bytealg.abigen_runtime_cmpstring"], unfollowed := true, recurses := true, plainKeys := false, apart := false, narrowed := true }
def CheckTreeUptoSaid : Prop := checkTreeUptoRow.holds Tryz.pinned (OpenSpec.upto checkTreeSpec)

/-- 'bywaylaw27.CheckWord', WHERE WHAT IT READS IS OF BULK AT MOST 1048576: true; the input reads as it did. -/
def checkWordUptoRow : OpenClaim := { program := "ytchgnpnbcjflcaagreat", sum := "65f703c237b93288618205430a46f6e71fee207572520220806cfabc55f76996", func := "byway/bywaylaw27.CheckWord", spec := "checkWord", inPlace := ["internal/abi.NoEscape", "internal/bytealg.MakeNoZero", "internal/bytealg.abigen_runtime_cmpstring"], unfollowed := true, recurses := true, plainKeys := false, apart := false, narrowed := true }
def CheckWordUptoSaid : Prop := checkWordUptoRow.holds Tryz.pinned (OpenSpec.upto checkWordSpec)

/-- 'bywaylaw27.CheckRight', WHERE WHAT IT READS IS OF BULK AT MOST 1048576: true; the input reads as it did. -/
def checkRightUptoRow : OpenClaim := { program := "ytchgnpnbcjflcaagreat", sum := "65f703c237b93288618205430a46f6e71fee207572520220806cfabc55f76996", func := "byway/bywaylaw27.CheckRight", spec := "checkRight", inPlace := ["internal/abi.NoEscape", "internal/bytealg.MakeNoZero", "internal/bytealg.abigen_runtime_cmpstring"], unfollowed := true, recurses := true, plainKeys := false, apart := false, narrowed := true }
def CheckRightUptoSaid : Prop := checkRightUptoRow.holds Tryz.pinned (OpenSpec.upto checkRightSpec)

/-- 'bywaylaw27.CheckSplits', WHERE WHAT IT READS IS OF BULK AT MOST 1048576: true; the input reads as it did. -/
def checkSplitsUptoRow : OpenClaim := { program := "ytchgnpnbcjflcaagreat", sum := "65f703c237b93288618205430a46f6e71fee207572520220806cfabc55f76996", func := "byway/bywaylaw27.CheckSplits", spec := "checkSplits", inPlace := ["internal/abi.NoEscape", "internal/bytealg.MakeNoZero", "internal/bytealg.abigen_runtime_cmpstring"], unfollowed := true, recurses := true, plainKeys := false, apart := false, narrowed := true }
def CheckSplitsUptoSaid : Prop := checkSplitsUptoRow.holds Tryz.pinned (OpenSpec.upto checkSplitsSpec)

/-- 'bywaylaw27.CheckDerives', WHERE WHAT IT READS IS OF BULK AT MOST 1048576: true; the input reads as it did. -/
def checkDerivesUptoRow : OpenClaim := { program := "ytchgnpnbcjflcaagreat", sum := "65f703c237b93288618205430a46f6e71fee207572520220806cfabc55f76996", func := "byway/bywaylaw27.CheckDerives", spec := "checkDerives", inPlace := ["internal/abi.NoEscape", "internal/bytealg.MakeNoZero", "internal/bytealg.abigen_runtime_cmpstring"], unfollowed := true, recurses := true, plainKeys := false, apart := false, narrowed := true }
def CheckDerivesUptoSaid : Prop := checkDerivesUptoRow.holds Tryz.pinned (OpenSpec.upto checkDerivesSpec)

end Rows
end Go.Proofs.YtchgnpnbcjflcaaGreat
