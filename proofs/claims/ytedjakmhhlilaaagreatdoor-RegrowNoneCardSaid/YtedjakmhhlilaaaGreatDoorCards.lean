/-
  DERIVED. GIVEN WITH THE SEED: THE CARDS: each row of YtedjakmhhlilaaaGreatDoorRows.lean that lists a variable, with what it lists TIED to the program's text (the seventh form; the later family's looks); each row that meets fmt, with fmt's text TOLD by the authors' own Lean function (tested against real Go, not proved from fmt's source: count such statements apart). THE CARD IS WHAT COUNTS. Prove the row's statement (the work); the ties are given (YtedjakmhhlilaaaGreatDoorTie.lean); close each card by the builder's one call (the guide's Derived/Test/ToyasCard.lean, 'card_holds'). Laid BY PROGRAM, IN A SANDBOX (cutbox-door.mjs). By AI agents, Wed Nov 11 2026. No macro, syntax, notation, axiom, sorry.
-/
import Derived.Test.YtedjakmhhlilaaaGreatDoorRows
import GoSem.ClaimSeven
namespace Go.Proofs.YtedjakmhhlilaaaGreatDoor
namespace Rows

/-- THE TIED CARD OF 'bywaylaw24.RegrowNone'. -/
def regrowNoneCard : Claim7 := { stood := { row := regrowNoneRow, standIns := [], harness := (true, "0688f1d7d0a816980b20f8d0ec199700e40cb3f93861d5e56532a4e427e09bc7"), looks := true }, kinds := [], alts := [], laidByText := true, laidKinds := [.data], laidTests := true, laidLooks := .later }
def RegrowNoneCardSaid : Prop := Claim7.holds Tryz.pinned (.plain (OpenSpec.ofChange regrowNoneSpec)) regrowNoneCard

/-- THE TIED CARD OF 'bywaylaw19.TensorNone'. -/
def tensorNoneCard : Claim7 := { stood := { row := tensorNoneRow, standIns := [], harness := (true, "0688f1d7d0a816980b20f8d0ec199700e40cb3f93861d5e56532a4e427e09bc7"), looks := true }, kinds := [], alts := [], laidByText := true, laidKinds := [.data], laidTests := true, laidLooks := .later }
def TensorNoneCardSaid : Prop := Claim7.holds Tryz.pinned (.plain (OpenSpec.ofChange tensorNoneSpec)) tensorNoneCard

/-- THE SECOND FORM's CARD OF 'bywaylaw24.RegrowNone'. -/
def regrowNoneUptoCard : Claim7 := { stood := { row := regrowNoneUptoRow, standIns := [], harness := (true, "0688f1d7d0a816980b20f8d0ec199700e40cb3f93861d5e56532a4e427e09bc7"), looks := true }, kinds := [], alts := [], laidByText := true, laidKinds := [.data], laidTests := true, laidLooks := .later }
def RegrowNoneUptoCardSaid : Prop := Claim7.holds Tryz.pinned (.plain (OpenSpec.upto regrowNoneSpec)) regrowNoneUptoCard

/-- THE SECOND FORM's CARD OF 'bywaylaw19.TensorNone'. -/
def tensorNoneUptoCard : Claim7 := { stood := { row := tensorNoneUptoRow, standIns := [], harness := (true, "0688f1d7d0a816980b20f8d0ec199700e40cb3f93861d5e56532a4e427e09bc7"), looks := true }, kinds := [], alts := [], laidByText := true, laidKinds := [.data], laidTests := true, laidLooks := .later }
def TensorNoneUptoCardSaid : Prop := Claim7.holds Tryz.pinned (.plain (OpenSpec.upto tensorNoneSpec)) tensorNoneUptoCard
end Rows
end Go.Proofs.YtedjakmhhlilaaaGreatDoor
