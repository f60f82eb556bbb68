/-
  DERIVED. GIVEN WITH THE SEED: THE CARDS: each row of YtnolpmigiboanaaDoorRows.lean that lists a variable, with what it lists TIED to the program's text (the seventh form; the later family's looks); each row that meets fmt, with fmt's text TOLD by the authors' own Lean function (tested against real Go, not proved from fmt's source: count such statements apart). THE CARD IS WHAT COUNTS. Prove the row's statement (the work); the ties are given (YtnolpmigiboanaaDoorTie.lean); close each card by the builder's one call (the guide's Derived/Test/ToyasCard.lean, 'card_holds'). Laid BY PROGRAM, IN A SANDBOX (cutbox-door.mjs). By AI agents, Wed Nov 11 2026. No macro, syntax, notation, axiom, sorry.
-/
import Derived.Test.YtnolpmigiboanaaDoorRows
import GoSem.ClaimSeven
namespace Go.Proofs.YtnolpmigiboanaaDoor
namespace Rows

/-- THE TIED CARD OF 'schemalenslaw07.SyntaxTokens'. -/
def syntaxTokensCard : Claim7 := { stood := { row := syntaxTokensRow, standIns := [], harness := (true, "57db3a25e46d080ebd0f9b42ec1ae0efc824ce010aaf62cbe7211372d8a36248"), looks := false }, kinds := [], alts := [], laidByText := true, laidKinds := [.widerDeep, .data], laidTests := true, laidLooks := .later }
def SyntaxTokensCardSaid : Prop := Claim7.holds Tryd.pinned (.plain (OpenSpec.ofChange syntaxTokensSpec)) syntaxTokensCard

/-- THE SECOND FORM's CARD OF 'schemalenslaw07.SyntaxTokens'. -/
def syntaxTokensUptoCard : Claim7 := { stood := { row := syntaxTokensUptoRow, standIns := [], harness := (true, "57db3a25e46d080ebd0f9b42ec1ae0efc824ce010aaf62cbe7211372d8a36248"), looks := false }, kinds := [], alts := [], laidByText := true, laidKinds := [.widerDeep, .data], laidTests := true, laidLooks := .later }
def SyntaxTokensUptoCardSaid : Prop := Claim7.holds Tryd.pinned (.plain (OpenSpec.upto syntaxTokensSpec)) syntaxTokensUptoCard
end Rows
end Go.Proofs.YtnolpmigiboanaaDoor
