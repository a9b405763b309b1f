/-
  No cell of these rows narrows 'for every input' (looked for: loops, veiled, ifaces, maps, wideKeys, modest, calm, conditions, laid).
  DERIVED. THE GIVEN ROWS OF THIS SEAT. 11 by the template 'for every input the law returns true; each argument reads behind the call as it read before'; 0 by the template 'total and deterministic' (their statements: YtdgocjbakjamaaaGreatTotals.lean).
  GIVEN WITH THE SEED: the statements are not yours to turn. If you find one false, say at which input.
  Laid BY PROGRAM, IN A SANDBOX (cutbox-rows.mjs): the forced cells as the released guide's own fill.sh prints them over the translation c069265e7854768b… (all of the seat's roots in one cut). By AI agents, Wed Nov 11 2026. No macro, syntax, notation, axiom, sorry.
-/
import Derived.Test.YtdgocjbakjamaaaGreatChecked
import GoSem.Claim
import GoSem.ClaimJoined
import GoSem.ClaimMapViews
import Derived.JoinedTies
import Derived.KernelRfl
namespace Go.Proofs.YtdgocjbakjamaaaGreat
/- THE CELL 'sum', in the pinned program and in every row, IS THE sha256 OF THE DUMP (.gsa) THAT YtdgocjbakjamaaaGreatProg.lean LOADS. Nothing in Lean hashes anything: it is a label: what it is worth is what the hold of that sum in a sandbox is worth. -/
noncomputable def Tryz.pinned : Pinned := { name := "ytdgocjbakjamaaagreat", sum := "c069265e7854768ba299cb361e2edadffb45d2578a7610710c51dab2d723329e", checked := Tryz.checked }
namespace Rows
def none {H : Type} : Left H := { results := [], args := [] }

/-- 'bywaylaw10.BoxOf': WHATEVER THE INPUT: true; the input reads as it did. -/
def boxOfSpec : ChangeSpec := { name := "boxOf", fn := fun _ => fun
  | [d1, d2] => { results := [.lit (.bool true)], args := [d1, d2] }
  | _ => none }
def boxOfRow : OpenClaim := { program := "ytdgocjbakjamaaagreat", sum := "c069265e7854768ba299cb361e2edadffb45d2578a7610710c51dab2d723329e", func := "byway/bywaylaw10.BoxOf", spec := "boxOf", inPlace := ["internal/abi.NoEscape", "internal/bytealg.MakeNoZero"], unfollowed := true, recurses := true, plainKeys := false, apart := false }
def BoxOfSaid : Prop := boxOfRow.holds Tryz.pinned (OpenSpec.ofChange boxOfSpec)

/-- ITS FALSE NEIGHBOUR: 'it returns false'. Refute it at one input. -/
def boxOfWrong : ChangeSpec := { name := "boxOf", fn := fun _ => fun
  | [d1, d2] => { results := [.lit (.bool false)], args := [d1, d2] }
  | _ => none }
def BoxOfWrongFalsely : Prop := boxOfRow.holds Tryz.pinned (OpenSpec.ofChange boxOfWrong)

/-- 'bywaylaw10.BoxShape': WHATEVER THE INPUT: true; the input reads as it did. -/
def boxShapeSpec : ChangeSpec := { name := "boxShape", fn := fun _ => fun
  | [d1, d2] => { results := [.lit (.bool true)], args := [d1, d2] }
  | _ => none }
def boxShapeRow : OpenClaim := { program := "ytdgocjbakjamaaagreat", sum := "c069265e7854768ba299cb361e2edadffb45d2578a7610710c51dab2d723329e", func := "byway/bywaylaw10.BoxShape", spec := "boxShape", inPlace := ["internal/abi.NoEscape", "internal/bytealg.MakeNoZero"], unfollowed := true, recurses := true, plainKeys := false, apart := false }
def BoxShapeSaid : Prop := boxShapeRow.holds Tryz.pinned (OpenSpec.ofChange boxShapeSpec)

/-- ITS FALSE NEIGHBOUR: 'it returns false'. Refute it at one input. -/
def boxShapeWrong : ChangeSpec := { name := "boxShape", fn := fun _ => fun
  | [d1, d2] => { results := [.lit (.bool false)], args := [d1, d2] }
  | _ => none }
def BoxShapeWrongFalsely : Prop := boxShapeRow.holds Tryz.pinned (OpenSpec.ofChange boxShapeWrong)

/-- 'bywaylaw10.BoxWords': WHATEVER THE INPUT: true; the input reads as it did. -/
def boxWordsSpec : ChangeSpec := { name := "boxWords", fn := fun _ => fun
  | [d1, d2, d3] => { results := [.lit (.bool true)], args := [d1, d2, d3] }
  | _ => none }
def boxWordsRow : OpenClaim := { program := "ytdgocjbakjamaaagreat", sum := "c069265e7854768ba299cb361e2edadffb45d2578a7610710c51dab2d723329e", func := "byway/bywaylaw10.BoxWords", spec := "boxWords", inPlace := ["internal/abi.NoEscape", "internal/bytealg.MakeNoZero"], unfollowed := true, recurses := true, plainKeys := false, apart := false }
def BoxWordsSaid : Prop := boxWordsRow.holds Tryz.pinned (OpenSpec.ofChange boxWordsSpec)

/-- ITS FALSE NEIGHBOUR: 'it returns false'. Refute it at one input. -/
def boxWordsWrong : ChangeSpec := { name := "boxWords", fn := fun _ => fun
  | [d1, d2, d3] => { results := [.lit (.bool false)], args := [d1, d2, d3] }
  | _ => none }
def BoxWordsWrongFalsely : Prop := boxWordsRow.holds Tryz.pinned (OpenSpec.ofChange boxWordsWrong)

/-- 'bywaylaw11.RsmOut': WHATEVER THE INPUT: true; the input reads as it did. -/
def rsmOutSpec : ChangeSpec := { name := "rsmOut", fn := fun _ => fun
  | [d1, d2, d3] => { results := [.lit (.bool true)], args := [d1, d2, d3] }
  | _ => none }
def rsmOutRow : OpenClaim := { program := "ytdgocjbakjamaaagreat", sum := "c069265e7854768ba299cb361e2edadffb45d2578a7610710c51dab2d723329e", func := "byway/bywaylaw11.RsmOut", spec := "rsmOut", inPlace := ["internal/abi.NoEscape", "internal/bytealg.MakeNoZero"], unfollowed := true, recurses := true, plainKeys := false, apart := false }
def RsmOutSaid : Prop := rsmOutRow.holds Tryz.pinned (OpenSpec.ofChange rsmOutSpec)

/-- ITS FALSE NEIGHBOUR: 'it returns false'. Refute it at one input. -/
def rsmOutWrong : ChangeSpec := { name := "rsmOut", fn := fun _ => fun
  | [d1, d2, d3] => { results := [.lit (.bool false)], args := [d1, d2, d3] }
  | _ => none }
def RsmOutWrongFalsely : Prop := rsmOutRow.holds Tryz.pinned (OpenSpec.ofChange rsmOutWrong)

/-- 'bywaylaw11.RsmAsks': WHATEVER THE INPUT: true; the input reads as it did. -/
def rsmAsksSpec : ChangeSpec := { name := "rsmAsks", fn := fun _ => fun
  | [d1, d2] => { results := [.lit (.bool true)], args := [d1, d2] }
  | _ => none }
def rsmAsksRow : OpenClaim := { program := "ytdgocjbakjamaaagreat", sum := "c069265e7854768ba299cb361e2edadffb45d2578a7610710c51dab2d723329e", func := "byway/bywaylaw11.RsmAsks", spec := "rsmAsks", inPlace := ["internal/abi.NoEscape", "internal/bytealg.MakeNoZero"], unfollowed := true, recurses := true, plainKeys := false, apart := false }
def RsmAsksSaid : Prop := rsmAsksRow.holds Tryz.pinned (OpenSpec.ofChange rsmAsksSpec)

/-- ITS FALSE NEIGHBOUR: 'it returns false'. Refute it at one input. -/
def rsmAsksWrong : ChangeSpec := { name := "rsmAsks", fn := fun _ => fun
  | [d1, d2] => { results := [.lit (.bool false)], args := [d1, d2] }
  | _ => none }
def RsmAsksWrongFalsely : Prop := rsmAsksRow.holds Tryz.pinned (OpenSpec.ofChange rsmAsksWrong)

/-- 'bywaylaw11.RsmWhole': WHATEVER THE INPUT: true; the input reads as it did. -/
def rsmWholeSpec : ChangeSpec := { name := "rsmWhole", fn := fun _ => fun
  | [d] => { results := [.lit (.bool true)], args := [d] }
  | _ => none }
def rsmWholeRow : OpenClaim := { program := "ytdgocjbakjamaaagreat", sum := "c069265e7854768ba299cb361e2edadffb45d2578a7610710c51dab2d723329e", func := "byway/bywaylaw11.RsmWhole", spec := "rsmWhole", inPlace := ["internal/abi.NoEscape", "internal/bytealg.MakeNoZero"], unfollowed := true, recurses := true, plainKeys := false, apart := false }
def RsmWholeSaid : Prop := rsmWholeRow.holds Tryz.pinned (OpenSpec.ofChange rsmWholeSpec)

/-- ITS FALSE NEIGHBOUR: 'it returns false'. Refute it at one input. -/
def rsmWholeWrong : ChangeSpec := { name := "rsmWhole", fn := fun _ => fun
  | [d] => { results := [.lit (.bool false)], args := [d] }
  | _ => none }
def RsmWholeWrongFalsely : Prop := rsmWholeRow.holds Tryz.pinned (OpenSpec.ofChange rsmWholeWrong)

/-- 'bywaylaw11.RsmApart': WHATEVER THE INPUT: true; the input reads as it did. -/
def rsmApartSpec : ChangeSpec := { name := "rsmApart", fn := fun _ => fun
  | [d1, d2] => { results := [.lit (.bool true)], args := [d1, d2] }
  | _ => none }
def rsmApartRow : OpenClaim := { program := "ytdgocjbakjamaaagreat", sum := "c069265e7854768ba299cb361e2edadffb45d2578a7610710c51dab2d723329e", func := "byway/bywaylaw11.RsmApart", spec := "rsmApart", inPlace := ["internal/abi.NoEscape", "internal/bytealg.MakeNoZero"], unfollowed := true, recurses := true, plainKeys := false, apart := false }
def RsmApartSaid : Prop := rsmApartRow.holds Tryz.pinned (OpenSpec.ofChange rsmApartSpec)

/-- ITS FALSE NEIGHBOUR: 'it returns false'. Refute it at one input. -/
def rsmApartWrong : ChangeSpec := { name := "rsmApart", fn := fun _ => fun
  | [d1, d2] => { results := [.lit (.bool false)], args := [d1, d2] }
  | _ => none }
def RsmApartWrongFalsely : Prop := rsmApartRow.holds Tryz.pinned (OpenSpec.ofChange rsmApartWrong)

/-- 'bywaylaw12.CfgOf': WHATEVER THE INPUT: true; the input reads as it did. -/
def cfgOfSpec : ChangeSpec := { name := "cfgOf", fn := fun _ => fun
  | [d] => { results := [.lit (.bool true)], args := [d] }
  | _ => none }
def cfgOfRow : OpenClaim := { program := "ytdgocjbakjamaaagreat", sum := "c069265e7854768ba299cb361e2edadffb45d2578a7610710c51dab2d723329e", func := "byway/bywaylaw12.CfgOf", spec := "cfgOf", inPlace := ["internal/abi.NoEscape", "internal/bytealg.MakeNoZero"], unfollowed := true, recurses := true, plainKeys := false, apart := false }
def CfgOfSaid : Prop := cfgOfRow.holds Tryz.pinned (OpenSpec.ofChange cfgOfSpec)

/-- ITS FALSE NEIGHBOUR: 'it returns false'. Refute it at one input. -/
def cfgOfWrong : ChangeSpec := { name := "cfgOf", fn := fun _ => fun
  | [d] => { results := [.lit (.bool false)], args := [d] }
  | _ => none }
def CfgOfWrongFalsely : Prop := cfgOfRow.holds Tryz.pinned (OpenSpec.ofChange cfgOfWrong)

/-- 'bywaylaw11.RsmMatrix': WHATEVER THE INPUT: true; the input reads as it did. -/
def rsmMatrixSpec : ChangeSpec := { name := "rsmMatrix", fn := fun _ => fun
  | [d1, d2] => { results := [.lit (.bool true)], args := [d1, d2] }
  | _ => none }
def rsmMatrixRow : OpenClaim := { program := "ytdgocjbakjamaaagreat", sum := "c069265e7854768ba299cb361e2edadffb45d2578a7610710c51dab2d723329e", func := "byway/bywaylaw11.RsmMatrix", spec := "rsmMatrix", inPlace := ["internal/abi.NoEscape", "internal/bytealg.MakeNoZero"], unfollowed := true, recurses := true, plainKeys := false, apart := false }
def RsmMatrixSaid : Prop := rsmMatrixRow.holds Tryz.pinned (OpenSpec.ofChange rsmMatrixSpec)

/-- ITS FALSE NEIGHBOUR: 'it returns false'. Refute it at one input. -/
def rsmMatrixWrong : ChangeSpec := { name := "rsmMatrix", fn := fun _ => fun
  | [d1, d2] => { results := [.lit (.bool false)], args := [d1, d2] }
  | _ => none }
def RsmMatrixWrongFalsely : Prop := rsmMatrixRow.holds Tryz.pinned (OpenSpec.ofChange rsmMatrixWrong)

/-- 'bywaylaw11.RsmBoxes': WHATEVER THE INPUT: true; the input reads as it did. -/
def rsmBoxesSpec : ChangeSpec := { name := "rsmBoxes", fn := fun _ => fun
  | [d] => { results := [.lit (.bool true)], args := [d] }
  | _ => none }
def rsmBoxesRow : OpenClaim := { program := "ytdgocjbakjamaaagreat", sum := "c069265e7854768ba299cb361e2edadffb45d2578a7610710c51dab2d723329e", func := "byway/bywaylaw11.RsmBoxes", spec := "rsmBoxes", inPlace := ["internal/abi.NoEscape", "internal/bytealg.MakeNoZero"], unfollowed := true, recurses := true, plainKeys := false, apart := false }
def RsmBoxesSaid : Prop := rsmBoxesRow.holds Tryz.pinned (OpenSpec.ofChange rsmBoxesSpec)

/-- ITS FALSE NEIGHBOUR: 'it returns false'. Refute it at one input. -/
def rsmBoxesWrong : ChangeSpec := { name := "rsmBoxes", fn := fun _ => fun
  | [d] => { results := [.lit (.bool false)], args := [d] }
  | _ => none }
def RsmBoxesWrongFalsely : Prop := rsmBoxesRow.holds Tryz.pinned (OpenSpec.ofChange rsmBoxesWrong)

/-- 'bywaylaw14.WcnfNew': WHATEVER THE INPUT: true; the input reads as it did. -/
def wcnfNewSpec : ChangeSpec := { name := "wcnfNew", fn := fun _ => fun
  | [d] => { results := [.lit (.bool true)], args := [d] }
  | _ => none }
def wcnfNewRow : OpenClaim := { program := "ytdgocjbakjamaaagreat", sum := "c069265e7854768ba299cb361e2edadffb45d2578a7610710c51dab2d723329e", func := "byway/bywaylaw14.WcnfNew", spec := "wcnfNew", inPlace := ["internal/abi.NoEscape", "internal/bytealg.MakeNoZero"], unfollowed := true, recurses := true, plainKeys := false, apart := false }
def WcnfNewSaid : Prop := wcnfNewRow.holds Tryz.pinned (OpenSpec.ofChange wcnfNewSpec)

/-- ITS FALSE NEIGHBOUR: 'it returns false'. Refute it at one input. -/
def wcnfNewWrong : ChangeSpec := { name := "wcnfNew", fn := fun _ => fun
  | [d] => { results := [.lit (.bool false)], args := [d] }
  | _ => none }
def WcnfNewWrongFalsely : Prop := wcnfNewRow.holds Tryz.pinned (OpenSpec.ofChange wcnfNewWrong)

/- THE SECOND FORM. 'bulk': how many values and letters a reading holds, each counted each time it is reached (what is shared counts as often as it is met; a slice's spare places count too). A statement '..UptoSaid' is the law's where the arguments, and the package variables that the reading takes, are together of bulk at most 1048576: NARROWER than '..Said'. Prove '..Said' where nothing that the law and all that it calls make is longer than what came in: it says more and counts as full. Else prove '..UptoSaid'. A law counts once. -/
mutual
def uptoBulk {H : Type} : DataW H → Nat
  | .lit (.string bytes) => bytes.length + 1
  | .lit _ => 1
  | .nil => 1
  | .ptr d => uptoBulk d + 1
  | .slice elems spare => uptoBulkAll elems + uptoBulkAll spare + 1
  | .agg parts => uptoBulkAll parts + 1
  | .iface _ d => uptoBulk d + 1
  | .map entries => uptoBulkEntries entries + 1
  | .held _ => 1
def uptoBulkAll {H : Type} : List (DataW H) → Nat
  | [] => 0
  | d :: r => uptoBulk d + uptoBulkAll r
def uptoBulkEntries {H : Type} : List (Lit × DataW H) → Nat
  | [] => 0
  | x :: r => uptoBulkEntry x + uptoBulkEntries r
def uptoBulkEntry {H : Type} : Lit × DataW H → Nat
  | (.string bytes, d) => bytes.length + uptoBulk d + 1
  | (_, d) => uptoBulk d + 1
 end
def uptoSmall : (H : Type) → List (DataW H) → Bool := fun _ ds => decide (uptoBulkAll ds ≤ 1048576)
def OpenSpec.upto (s : _root_.Go.ChangeSpec) : _root_.Go.OpenSpec := { _root_.Go.OpenSpec.ofChange s with cond := some uptoSmall }

/-- 'bywaylaw10.BoxOf', WHERE WHAT IT READS IS OF BULK AT MOST 1048576: true; the input reads as it did. -/
def boxOfUptoRow : OpenClaim := { program := "ytdgocjbakjamaaagreat", sum := "c069265e7854768ba299cb361e2edadffb45d2578a7610710c51dab2d723329e", func := "byway/bywaylaw10.BoxOf", spec := "boxOf", inPlace := ["internal/abi.NoEscape", "internal/bytealg.MakeNoZero"], unfollowed := true, recurses := true, plainKeys := false, apart := false, narrowed := true }
def BoxOfUptoSaid : Prop := boxOfUptoRow.holds Tryz.pinned (OpenSpec.upto boxOfSpec)

/-- 'bywaylaw10.BoxShape', WHERE WHAT IT READS IS OF BULK AT MOST 1048576: true; the input reads as it did. -/
def boxShapeUptoRow : OpenClaim := { program := "ytdgocjbakjamaaagreat", sum := "c069265e7854768ba299cb361e2edadffb45d2578a7610710c51dab2d723329e", func := "byway/bywaylaw10.BoxShape", spec := "boxShape", inPlace := ["internal/abi.NoEscape", "internal/bytealg.MakeNoZero"], unfollowed := true, recurses := true, plainKeys := false, apart := false, narrowed := true }
def BoxShapeUptoSaid : Prop := boxShapeUptoRow.holds Tryz.pinned (OpenSpec.upto boxShapeSpec)

/-- 'bywaylaw10.BoxWords', WHERE WHAT IT READS IS OF BULK AT MOST 1048576: true; the input reads as it did. -/
def boxWordsUptoRow : OpenClaim := { program := "ytdgocjbakjamaaagreat", sum := "c069265e7854768ba299cb361e2edadffb45d2578a7610710c51dab2d723329e", func := "byway/bywaylaw10.BoxWords", spec := "boxWords", inPlace := ["internal/abi.NoEscape", "internal/bytealg.MakeNoZero"], unfollowed := true, recurses := true, plainKeys := false, apart := false, narrowed := true }
def BoxWordsUptoSaid : Prop := boxWordsUptoRow.holds Tryz.pinned (OpenSpec.upto boxWordsSpec)

/-- 'bywaylaw11.RsmOut', WHERE WHAT IT READS IS OF BULK AT MOST 1048576: true; the input reads as it did. -/
def rsmOutUptoRow : OpenClaim := { program := "ytdgocjbakjamaaagreat", sum := "c069265e7854768ba299cb361e2edadffb45d2578a7610710c51dab2d723329e", func := "byway/bywaylaw11.RsmOut", spec := "rsmOut", inPlace := ["internal/abi.NoEscape", "internal/bytealg.MakeNoZero"], unfollowed := true, recurses := true, plainKeys := false, apart := false, narrowed := true }
def RsmOutUptoSaid : Prop := rsmOutUptoRow.holds Tryz.pinned (OpenSpec.upto rsmOutSpec)

/-- 'bywaylaw11.RsmAsks', WHERE WHAT IT READS IS OF BULK AT MOST 1048576: true; the input reads as it did. -/
def rsmAsksUptoRow : OpenClaim := { program := "ytdgocjbakjamaaagreat", sum := "c069265e7854768ba299cb361e2edadffb45d2578a7610710c51dab2d723329e", func := "byway/bywaylaw11.RsmAsks", spec := "rsmAsks", inPlace := ["internal/abi.NoEscape", "internal/bytealg.MakeNoZero"], unfollowed := true, recurses := true, plainKeys := false, apart := false, narrowed := true }
def RsmAsksUptoSaid : Prop := rsmAsksUptoRow.holds Tryz.pinned (OpenSpec.upto rsmAsksSpec)

/-- 'bywaylaw11.RsmWhole', WHERE WHAT IT READS IS OF BULK AT MOST 1048576: true; the input reads as it did. -/
def rsmWholeUptoRow : OpenClaim := { program := "ytdgocjbakjamaaagreat", sum := "c069265e7854768ba299cb361e2edadffb45d2578a7610710c51dab2d723329e", func := "byway/bywaylaw11.RsmWhole", spec := "rsmWhole", inPlace := ["internal/abi.NoEscape", "internal/bytealg.MakeNoZero"], unfollowed := true, recurses := true, plainKeys := false, apart := false, narrowed := true }
def RsmWholeUptoSaid : Prop := rsmWholeUptoRow.holds Tryz.pinned (OpenSpec.upto rsmWholeSpec)

/-- 'bywaylaw11.RsmApart', WHERE WHAT IT READS IS OF BULK AT MOST 1048576: true; the input reads as it did. -/
def rsmApartUptoRow : OpenClaim := { program := "ytdgocjbakjamaaagreat", sum := "c069265e7854768ba299cb361e2edadffb45d2578a7610710c51dab2d723329e", func := "byway/bywaylaw11.RsmApart", spec := "rsmApart", inPlace := ["internal/abi.NoEscape", "internal/bytealg.MakeNoZero"], unfollowed := true, recurses := true, plainKeys := false, apart := false, narrowed := true }
def RsmApartUptoSaid : Prop := rsmApartUptoRow.holds Tryz.pinned (OpenSpec.upto rsmApartSpec)

/-- 'bywaylaw12.CfgOf', WHERE WHAT IT READS IS OF BULK AT MOST 1048576: true; the input reads as it did. -/
def cfgOfUptoRow : OpenClaim := { program := "ytdgocjbakjamaaagreat", sum := "c069265e7854768ba299cb361e2edadffb45d2578a7610710c51dab2d723329e", func := "byway/bywaylaw12.CfgOf", spec := "cfgOf", inPlace := ["internal/abi.NoEscape", "internal/bytealg.MakeNoZero"], unfollowed := true, recurses := true, plainKeys := false, apart := false, narrowed := true }
def CfgOfUptoSaid : Prop := cfgOfUptoRow.holds Tryz.pinned (OpenSpec.upto cfgOfSpec)

/-- 'bywaylaw11.RsmMatrix', WHERE WHAT IT READS IS OF BULK AT MOST 1048576: true; the input reads as it did. -/
def rsmMatrixUptoRow : OpenClaim := { program := "ytdgocjbakjamaaagreat", sum := "c069265e7854768ba299cb361e2edadffb45d2578a7610710c51dab2d723329e", func := "byway/bywaylaw11.RsmMatrix", spec := "rsmMatrix", inPlace := ["internal/abi.NoEscape", "internal/bytealg.MakeNoZero"], unfollowed := true, recurses := true, plainKeys := false, apart := false, narrowed := true }
def RsmMatrixUptoSaid : Prop := rsmMatrixUptoRow.holds Tryz.pinned (OpenSpec.upto rsmMatrixSpec)

/-- 'bywaylaw11.RsmBoxes', WHERE WHAT IT READS IS OF BULK AT MOST 1048576: true; the input reads as it did. -/
def rsmBoxesUptoRow : OpenClaim := { program := "ytdgocjbakjamaaagreat", sum := "c069265e7854768ba299cb361e2edadffb45d2578a7610710c51dab2d723329e", func := "byway/bywaylaw11.RsmBoxes", spec := "rsmBoxes", inPlace := ["internal/abi.NoEscape", "internal/bytealg.MakeNoZero"], unfollowed := true, recurses := true, plainKeys := false, apart := false, narrowed := true }
def RsmBoxesUptoSaid : Prop := rsmBoxesUptoRow.holds Tryz.pinned (OpenSpec.upto rsmBoxesSpec)

/-- 'bywaylaw14.WcnfNew', WHERE WHAT IT READS IS OF BULK AT MOST 1048576: true; the input reads as it did. -/
def wcnfNewUptoRow : OpenClaim := { program := "ytdgocjbakjamaaagreat", sum := "c069265e7854768ba299cb361e2edadffb45d2578a7610710c51dab2d723329e", func := "byway/bywaylaw14.WcnfNew", spec := "wcnfNew", inPlace := ["internal/abi.NoEscape", "internal/bytealg.MakeNoZero"], unfollowed := true, recurses := true, plainKeys := false, apart := false, narrowed := true }
def WcnfNewUptoSaid : Prop := wcnfNewUptoRow.holds Tryz.pinned (OpenSpec.upto wcnfNewSpec)

end Rows
end Go.Proofs.YtdgocjbakjamaaaGreat
