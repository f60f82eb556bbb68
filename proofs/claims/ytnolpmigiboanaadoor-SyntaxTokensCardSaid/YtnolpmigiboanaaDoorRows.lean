/-
  NARROWER THAN 'FOR EVERY INPUT', by the rows' own cells (each row's printed sentence says how): SyntaxTokens: laid.
  DERIVED. THE GIVEN ROWS OF THIS SEAT. 1 by the template 'for every input the law returns true; each argument reads behind the call as it read before'; 0 by the template 'total and deterministic' (their statements: YtnolpmigiboanaaDoorTotals.lean).
  GIVEN WITH THE SEED: the statements are not yours to turn. If you find one false, say at which input.
  Laid BY PROGRAM, IN A SANDBOX (cutbox-rows.mjs): the forced cells as the released guide's own fill.sh prints them over the translation 2e8f42fa70eda45e… (all of the seat's roots in one cut). By AI agents, Wed Nov 11 2026. No macro, syntax, notation, axiom, sorry.
-/
import Derived.Test.YtnolpmigiboanaaDoorChecked
import GoSem.Claim
import GoSem.ClaimJoined
import GoSem.ClaimMapViews
import Derived.JoinedTies
import Derived.KernelRfl
namespace Go.Proofs.YtnolpmigiboanaaDoor
/- THE CELL 'sum', in the pinned program and in every row, IS THE sha256 OF THE DUMP (.gsa) THAT YtnolpmigiboanaaDoorProg.lean LOADS. Nothing in Lean hashes anything: it is a label: what it is worth is what the hold of that sum in a sandbox is worth. -/
noncomputable def Tryd.pinned : Pinned := { name := "ytnolpmigiboanaadoor", sum := "2e8f42fa70eda45eaea964a6cfe55fe766dada439f88ea3f4b3d838727017af0", checked := Tryd.checked }
namespace Rows
def none {H : Type} : Left H := { results := [], args := [] }

/- WHAT THE LISTED PACKAGE-LEVEL VARIABLES READ AS WHEN THE CALL BEGINS. Each datum BY PROGRAM (the guide's laid-datum.mjs) off the statement by which the dump's own 'gosem.cut.vars' lays the variable. In a bare row this is a premise. The card (YtnolpmigiboanaaDoorCards.lean) ties it to the program's text. -/
def laid_schemalens_lexer_keywords {H : Type} : DataW H := .agg [.lit (.string [97, 110, 100]), .lit (.string [97, 115]), .lit (.string [99, 104, 101, 99, 107]), .lit (.string [100, 101, 108, 101, 116, 101]), .lit (.string [101, 108, 115, 101]), .lit (.string [102, 97, 108, 115, 101]), .lit (.string [102, 117, 110]), .lit (.string [105, 102]), .lit (.string [105, 110]), .lit (.string [105, 110, 115, 101, 114, 116]), .lit (.string [107, 101, 121]), .lit (.string [108, 101, 116]), .lit (.string [109, 97, 116, 99, 104]), .lit (.string [110, 111, 116]), .lit (.string [111, 114]), .lit (.string [112, 114, 111, 99]), .lit (.string [114, 101, 102]), .lit (.string [115, 101, 116]), .lit (.string [116, 97, 98, 108, 101]), .lit (.string [116, 104, 101, 110]), .lit (.string [116, 111]), .lit (.string [116, 114, 117, 101]), .lit (.string [116, 121, 112, 101]), .lit (.string [117, 112, 100, 97, 116, 101]), .lit (.string [119, 104, 101, 114, 101]), .lit (.string [119, 105, 116, 104])]
def laid_schemalens_lexer_symbols {H : Type} : DataW H := .agg [.lit (.string [61, 61]), .lit (.string [33, 61]), .lit (.string [60, 61]), .lit (.string [60, 45]), .lit (.string [45, 62]), .lit (.string [43, 43]), .lit (.string [60]), .lit (.string [62]), .lit (.string [61]), .lit (.string [43]), .lit (.string [45]), .lit (.string [42]), .lit (.string [40]), .lit (.string [41]), .lit (.string [123]), .lit (.string [125]), .lit (.string [91]), .lit (.string [93]), .lit (.string [44]), .lit (.string [46]), .lit (.string [58]), .lit (.string [124]), .lit (.string [59]), .lit (.string [63])]

/-- 'schemalenslaw07.SyntaxTokens': WHATEVER THE INPUT: true; the input reads as it did. -/
def syntaxTokensSpec : ChangeSpec := { name := "syntaxTokens", fn := fun _ => fun
  | [d1, d2, d3] => { results := [.lit (.bool true)], args := [d1, d2, d3] }
  | _ => none }
def syntaxTokensRow : OpenClaim := { program := "ytnolpmigiboanaadoor", sum := "2e8f42fa70eda45eaea964a6cfe55fe766dada439f88ea3f4b3d838727017af0", func := "schemalens/schemalenslaw07.SyntaxTokens", spec := "syntaxTokens", inPlace := ["internal/bytealg.IndexByteString", "internal/bytealg.IndexString", "internal/abi.NoEscape"], unfollowed := true, recurses := true, named := ["schemalens/lexer.keywords", "schemalens/lexer.symbols", "internal/bytealg.MaxLen"], apart := false, laid := [("schemalens/lexer.keywords", laid_schemalens_lexer_keywords), ("schemalens/lexer.symbols", laid_schemalens_lexer_symbols)] }
def SyntaxTokensSaid : Prop := syntaxTokensRow.holds Tryd.pinned (OpenSpec.ofChange syntaxTokensSpec)

/-- ITS FALSE NEIGHBOUR: 'it returns false'. Refute it at one input. -/
def syntaxTokensWrong : ChangeSpec := { name := "syntaxTokens", fn := fun _ => fun
  | [d1, d2, d3] => { results := [.lit (.bool false)], args := [d1, d2, d3] }
  | _ => none }
def SyntaxTokensWrongFalsely : Prop := syntaxTokensRow.holds Tryd.pinned (OpenSpec.ofChange syntaxTokensWrong)

/- THE SECOND FORM. 'bulk': how many values and letters a reading holds, each counted each time it is reached (what is shared counts as often as it is met; a slice's spare places count too). A statement '..UptoSaid' is the law's where the arguments, and the package variables that the reading takes, are together of bulk at most 1048576: NARROWER than '..Said'. Prove '..Said' where nothing that the law and all that it calls make is longer than what came in: it says more and counts as full. Else prove '..UptoSaid'. A law counts once. -/
mutual
def uptoBulk {H : Type} : DataW H → Nat
  | .lit (.string bytes) => bytes.length + 1
  | .lit _ => 1
  | .nil => 1
  | .ptr d => uptoBulk d + 1
  | .slice elems spare => uptoBulkAll elems + uptoBulkAll spare + 1
  | .agg parts => uptoBulkAll parts + 1
  | .iface _ d => uptoBulk d + 1
  | .map entries => uptoBulkEntries entries + 1
  | .held _ => 1
def uptoBulkAll {H : Type} : List (DataW H) → Nat
  | [] => 0
  | d :: r => uptoBulk d + uptoBulkAll r
def uptoBulkEntries {H : Type} : List (Lit × DataW H) → Nat
  | [] => 0
  | x :: r => uptoBulkEntry x + uptoBulkEntries r
def uptoBulkEntry {H : Type} : Lit × DataW H → Nat
  | (.string bytes, d) => bytes.length + uptoBulk d + 1
  | (_, d) => uptoBulk d + 1
 end
def uptoSmall : (H : Type) → List (DataW H) → Bool := fun _ ds => decide (uptoBulkAll ds ≤ 1048576)
def OpenSpec.upto (s : _root_.Go.ChangeSpec) : _root_.Go.OpenSpec := { _root_.Go.OpenSpec.ofChange s with cond := some uptoSmall }

/-- 'schemalenslaw07.SyntaxTokens', WHERE WHAT IT READS IS OF BULK AT MOST 1048576: true; the input reads as it did. -/
def syntaxTokensUptoRow : OpenClaim := { program := "ytnolpmigiboanaadoor", sum := "2e8f42fa70eda45eaea964a6cfe55fe766dada439f88ea3f4b3d838727017af0", func := "schemalens/schemalenslaw07.SyntaxTokens", spec := "syntaxTokens", inPlace := ["internal/bytealg.IndexByteString", "internal/bytealg.IndexString", "internal/abi.NoEscape"], unfollowed := true, recurses := true, named := ["schemalens/lexer.keywords", "schemalens/lexer.symbols", "internal/bytealg.MaxLen"], apart := false, laid := [("schemalens/lexer.keywords", laid_schemalens_lexer_keywords), ("schemalens/lexer.symbols", laid_schemalens_lexer_symbols)], narrowed := true }
def SyntaxTokensUptoSaid : Prop := syntaxTokensUptoRow.holds Tryd.pinned (OpenSpec.upto syntaxTokensSpec)

end Rows
end Go.Proofs.YtnolpmigiboanaaDoor
