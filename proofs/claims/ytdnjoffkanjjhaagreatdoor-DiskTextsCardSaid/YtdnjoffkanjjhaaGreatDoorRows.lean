/-
  NARROWER THAN 'FOR EVERY INPUT', by the rows' own cells (each row's printed sentence says how): DiskTexts: laid.
  DERIVED. THE GIVEN ROWS OF THIS SEAT. 1 by the template 'for every input the law returns true; each argument reads behind the call as it read before'; 0 by the template 'total and deterministic' (their statements: YtdnjoffkanjjhaaGreatDoorTotals.lean).
  GIVEN WITH THE SEED: the statements are not yours to turn. If you find one false, say at which input.
  Laid BY PROGRAM, IN A SANDBOX (cutbox-rows.mjs): the forced cells as the released guide's own fill.sh prints them over the translation eb72e763cdfaaefd… (all of the seat's roots in one cut). By AI agents, Wed Nov 11 2026. No macro, syntax, notation, axiom, sorry.
-/
import Derived.Test.YtdnjoffkanjjhaaGreatDoorChecked
import GoSem.Claim
import GoSem.ClaimJoined
import GoSem.ClaimMapViews
import Derived.JoinedTies
import Derived.KernelRfl
namespace Go.Proofs.YtdnjoffkanjjhaaGreatDoor
/- THE CELL 'sum', in the pinned program and in every row, IS THE sha256 OF THE DUMP (.gsa) THAT YtdnjoffkanjjhaaGreatDoorProg.lean LOADS. Nothing in Lean hashes anything: it is a label: what it is worth is what the hold of that sum in a sandbox is worth. -/
noncomputable def Tryz.pinned : Pinned := { name := "ytdnjoffkanjjhaagreatdoor", sum := "eb72e763cdfaaefd7d9a9060291a1090298a11dc315a55298d5028e22f7b135c", checked := Tryz.checked }
namespace Rows
def none {H : Type} : Left H := { results := [], args := [] }

/- WHAT THE LISTED PACKAGE-LEVEL VARIABLES READ AS WHEN THE CALL BEGINS. Each datum BY PROGRAM (the guide's laid-datum.mjs) off the statement by which the dump's own 'gosem.cut.vars' lays the variable. In a bare row this is a premise. The card (YtdnjoffkanjjhaaGreatDoorCards.lean) ties it to the program's text. -/
def laid_schemalens_lexer_keywords {H : Type} : DataW H := .agg [.lit (.string [97, 110, 100]), .lit (.string [97, 115]), .lit (.string [99, 104, 101, 99, 107]), .lit (.string [100, 101, 108, 101, 116, 101]), .lit (.string [101, 108, 115, 101]), .lit (.string [102, 97, 108, 115, 101]), .lit (.string [102, 117, 110]), .lit (.string [105, 102]), .lit (.string [105, 110]), .lit (.string [105, 110, 115, 101, 114, 116]), .lit (.string [107, 101, 121]), .lit (.string [108, 101, 116]), .lit (.string [109, 97, 116, 99, 104]), .lit (.string [110, 111, 116]), .lit (.string [111, 114]), .lit (.string [112, 114, 111, 99]), .lit (.string [114, 101, 102]), .lit (.string [115, 101, 116]), .lit (.string [116, 97, 98, 108, 101]), .lit (.string [116, 104, 101, 110]), .lit (.string [116, 111]), .lit (.string [116, 114, 117, 101]), .lit (.string [116, 121, 112, 101]), .lit (.string [117, 112, 100, 97, 116, 101]), .lit (.string [119, 104, 101, 114, 101]), .lit (.string [119, 105, 116, 104])]
def laid_schemalens_lexer_symbols {H : Type} : DataW H := .agg [.lit (.string [61, 61]), .lit (.string [33, 61]), .lit (.string [60, 61]), .lit (.string [60, 45]), .lit (.string [45, 62]), .lit (.string [43, 43]), .lit (.string [60]), .lit (.string [62]), .lit (.string [61]), .lit (.string [43]), .lit (.string [45]), .lit (.string [42]), .lit (.string [40]), .lit (.string [41]), .lit (.string [123]), .lit (.string [125]), .lit (.string [91]), .lit (.string [93]), .lit (.string [44]), .lit (.string [46]), .lit (.string [58]), .lit (.string [124]), .lit (.string [59]), .lit (.string [63])]

/-- 'schemalenslaw34.DiskTexts': WHATEVER THE INPUT: true; the input reads as it did. -/
def diskTextsSpec : ChangeSpec := { name := "diskTexts", fn := fun _ => fun
  | [d1, d2, d3, d4, d5] => { results := [.lit (.bool true)], args := [d1, d2, d3, d4, d5] }
  | _ => none }
def diskTextsRow : OpenClaim := { program := "ytdnjoffkanjjhaagreatdoor", sum := "eb72e763cdfaaefd7d9a9060291a1090298a11dc315a55298d5028e22f7b135c", func := "schemalens/schemalenslaw34.DiskTexts", spec := "diskTexts", inPlace := ["internal/abi.NoEscape", "internal/bytealg.IndexByteString", "internal/bytealg.IndexString", "maps.clone"], unfollowed := true, recurses := true, named := ["schemalens/lexer.keywords", "schemalens/lexer.symbols", "internal/bytealg.MaxLen"], apart := false, laid := [("schemalens/lexer.keywords", laid_schemalens_lexer_keywords), ("schemalens/lexer.symbols", laid_schemalens_lexer_symbols)] }
def DiskTextsSaid : Prop := diskTextsRow.holds Tryz.pinned (OpenSpec.ofChange diskTextsSpec)

/-- ITS FALSE NEIGHBOUR: 'it returns false'. Refute it at one input. -/
def diskTextsWrong : ChangeSpec := { name := "diskTexts", fn := fun _ => fun
  | [d1, d2, d3, d4, d5] => { results := [.lit (.bool false)], args := [d1, d2, d3, d4, d5] }
  | _ => none }
def DiskTextsWrongFalsely : Prop := diskTextsRow.holds Tryz.pinned (OpenSpec.ofChange diskTextsWrong)

/- THE SECOND FORM. 'bulk': how many values and letters a reading holds, each counted each time it is reached (what is shared counts as often as it is met; a slice's spare places count too). A statement '..UptoSaid' is the law's where the arguments, and the package variables that the reading takes, are together of bulk at most 1048576: NARROWER than '..Said'. Prove '..Said' where nothing that the law and all that it calls make is longer than what came in: it says more and counts as full. Else prove '..UptoSaid'. A law counts once. -/
mutual
def uptoBulk {H : Type} : DataW H → Nat
  | .lit (.string bytes) => bytes.length + 1
  | .lit _ => 1
  | .nil => 1
  | .ptr d => uptoBulk d + 1
  | .slice elems spare => uptoBulkAll elems + uptoBulkAll spare + 1
  | .agg parts => uptoBulkAll parts + 1
  | .iface _ d => uptoBulk d + 1
  | .map entries => uptoBulkEntries entries + 1
  | .held _ => 1
def uptoBulkAll {H : Type} : List (DataW H) → Nat
  | [] => 0
  | d :: r => uptoBulk d + uptoBulkAll r
def uptoBulkEntries {H : Type} : List (Lit × DataW H) → Nat
  | [] => 0
  | x :: r => uptoBulkEntry x + uptoBulkEntries r
def uptoBulkEntry {H : Type} : Lit × DataW H → Nat
  | (.string bytes, d) => bytes.length + uptoBulk d + 1
  | (_, d) => uptoBulk d + 1
 end
def uptoSmall : (H : Type) → List (DataW H) → Bool := fun _ ds => decide (uptoBulkAll ds ≤ 1048576)
def OpenSpec.upto (s : _root_.Go.ChangeSpec) : _root_.Go.OpenSpec := { _root_.Go.OpenSpec.ofChange s with cond := some uptoSmall }

/-- 'schemalenslaw34.DiskTexts', WHERE WHAT IT READS IS OF BULK AT MOST 1048576: true; the input reads as it did. -/
def diskTextsUptoRow : OpenClaim := { program := "ytdnjoffkanjjhaagreatdoor", sum := "eb72e763cdfaaefd7d9a9060291a1090298a11dc315a55298d5028e22f7b135c", func := "schemalens/schemalenslaw34.DiskTexts", spec := "diskTexts", inPlace := ["internal/abi.NoEscape", "internal/bytealg.IndexByteString", "internal/bytealg.IndexString", "maps.clone"], unfollowed := true, recurses := true, named := ["schemalens/lexer.keywords", "schemalens/lexer.symbols", "internal/bytealg.MaxLen"], apart := false, laid := [("schemalens/lexer.keywords", laid_schemalens_lexer_keywords), ("schemalens/lexer.symbols", laid_schemalens_lexer_symbols)], narrowed := true }
def DiskTextsUptoSaid : Prop := diskTextsUptoRow.holds Tryz.pinned (OpenSpec.upto diskTextsSpec)

end Rows
end Go.Proofs.YtdnjoffkanjjhaaGreatDoor
