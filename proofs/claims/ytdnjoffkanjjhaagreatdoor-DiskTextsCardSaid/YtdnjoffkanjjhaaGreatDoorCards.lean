/-
  DERIVED. GIVEN WITH THE SEED: THE CARDS: each row of YtdnjoffkanjjhaaGreatDoorRows.lean that lists a variable, with what it lists TIED to the program's text (the seventh form; the later family's looks); each row that meets fmt, with fmt's text TOLD by the authors' own Lean function (tested against real Go, not proved from fmt's source: count such statements apart). THE CARD IS WHAT COUNTS. Prove the row's statement (the work); the ties are given (YtdnjoffkanjjhaaGreatDoorTie.lean); close each card by the builder's one call (the guide's Derived/Test/ToyasCard.lean, 'card_holds'). Laid BY PROGRAM, IN A SANDBOX (cutbox-door.mjs). By AI agents, Wed Nov 11 2026. No macro, syntax, notation, axiom, sorry.
-/
import Derived.Test.YtdnjoffkanjjhaaGreatDoorRows
import GoSem.ClaimSeven
namespace Go.Proofs.YtdnjoffkanjjhaaGreatDoor
namespace Rows

/-- THE TIED CARD OF 'schemalenslaw34.DiskTexts'. -/
def diskTextsCard : Claim7 := { stood := { row := diskTextsRow, standIns := [], harness := (true, "a89f4bc761b8349ef46607eed9bdb2b566f1ae343937e28d4603bd235512cf15"), looks := true }, kinds := [], alts := [], laidByText := true, laidKinds := [.widerDeep, .data], laidTests := true, laidLooks := .later }
def DiskTextsCardSaid : Prop := Claim7.holds Tryz.pinned (.plain (OpenSpec.ofChange diskTextsSpec)) diskTextsCard

/-- THE SECOND FORM's CARD OF 'schemalenslaw34.DiskTexts'. -/
def diskTextsUptoCard : Claim7 := { stood := { row := diskTextsUptoRow, standIns := [], harness := (true, "a89f4bc761b8349ef46607eed9bdb2b566f1ae343937e28d4603bd235512cf15"), looks := true }, kinds := [], alts := [], laidByText := true, laidKinds := [.widerDeep, .data], laidTests := true, laidLooks := .later }
def DiskTextsUptoCardSaid : Prop := Claim7.holds Tryz.pinned (.plain (OpenSpec.upto diskTextsSpec)) diskTextsUptoCard
end Rows
end Go.Proofs.YtdnjoffkanjjhaaGreatDoor
