/-
  NARROWER THAN 'FOR EVERY INPUT', by the rows' own cells (each row's printed sentence says how): SyntaxPath: loops · SyntaxText: loops · SyntaxReplace: loops · SyntaxEqual: loops.
  DERIVED. THE GIVEN ROWS OF THIS SEAT. 8 by the template 'for every input the law returns true; each argument reads behind the call as it read before'; 0 by the template 'total and deterministic' (their statements: YtnolpmigiboanaaTotals.lean).
  GIVEN WITH THE SEED: the statements are not yours to turn. If you find one false, say at which input.
  Laid BY PROGRAM, IN A SANDBOX (cutbox-rows.mjs): the forced cells as the released guide's own fill.sh prints them over the translation 63eed3e360101593… (all of the seat's roots in one cut). By AI agents, Wed Nov 11 2026. No macro, syntax, notation, axiom, sorry.
-/
import Derived.Test.YtnolpmigiboanaaChecked
import GoSem.Claim
import GoSem.ClaimJoined
import GoSem.ClaimMapViews
import Derived.JoinedTies
import Derived.KernelRfl
namespace Go.Proofs.Ytnolpmigiboanaa
/- THE CELL 'sum', in the pinned program and in every row, IS THE sha256 OF THE DUMP (.gsa) THAT YtnolpmigiboanaaProg.lean LOADS. Nothing in Lean hashes anything: it is a label: what it is worth is what the hold of that sum in a sandbox is worth. -/
noncomputable def Try.pinned : Pinned := { name := "ytnolpmigiboanaa", sum := "63eed3e360101593f0530d922aad3399d27bf0d94948d64ae3d7953d0f247551", checked := Try.checked }
namespace Rows
def none {H : Type} : Left H := { results := [], args := [] }

/-- 'schemalenslaw07.SyntaxPath': WHATEVER THE INPUT: true; the input reads as it did. -/
def syntaxPathSpec : ChangeSpec := { name := "syntaxPath", fn := fun _ => fun
  | [d1, d2, d3] => { results := [.lit (.bool true)], args := [d1, d2, d3] }
  | _ => none }
def syntaxPathRow : OpenClaim := { program := "ytnolpmigiboanaa", sum := "63eed3e360101593f0530d922aad3399d27bf0d94948d64ae3d7953d0f247551", func := "schemalens/schemalenslaw07.SyntaxPath", spec := "syntaxPath", inPlace := ["internal/abi.NoEscape"], unfollowed := true, recurses := true, loops := true, apart := false }
def SyntaxPathSaid : Prop := syntaxPathRow.holds Try.pinned (OpenSpec.ofChange syntaxPathSpec)

/-- ITS FALSE NEIGHBOUR: 'it returns false'. Refute it at one input. -/
def syntaxPathWrong : ChangeSpec := { name := "syntaxPath", fn := fun _ => fun
  | [d1, d2, d3] => { results := [.lit (.bool false)], args := [d1, d2, d3] }
  | _ => none }
def SyntaxPathWrongFalsely : Prop := syntaxPathRow.holds Try.pinned (OpenSpec.ofChange syntaxPathWrong)

/-- 'schemalenslaw07.SyntaxGet': WHATEVER THE INPUT: true; the input reads as it did. -/
def syntaxGetSpec : ChangeSpec := { name := "syntaxGet", fn := fun _ => fun
  | [d1, d2, d3] => { results := [.lit (.bool true)], args := [d1, d2, d3] }
  | _ => none }
def syntaxGetRow : OpenClaim := { program := "ytnolpmigiboanaa", sum := "63eed3e360101593f0530d922aad3399d27bf0d94948d64ae3d7953d0f247551", func := "schemalens/schemalenslaw07.SyntaxGet", spec := "syntaxGet", inPlace := ["internal/abi.NoEscape"], unfollowed := true, recurses := true, apart := false }
def SyntaxGetSaid : Prop := syntaxGetRow.holds Try.pinned (OpenSpec.ofChange syntaxGetSpec)

/-- ITS FALSE NEIGHBOUR: 'it returns false'. Refute it at one input. -/
def syntaxGetWrong : ChangeSpec := { name := "syntaxGet", fn := fun _ => fun
  | [d1, d2, d3] => { results := [.lit (.bool false)], args := [d1, d2, d3] }
  | _ => none }
def SyntaxGetWrongFalsely : Prop := syntaxGetRow.holds Try.pinned (OpenSpec.ofChange syntaxGetWrong)

/-- 'schemalenslaw07.SyntaxText': WHATEVER THE INPUT: true; the input reads as it did. -/
def syntaxTextSpec : ChangeSpec := { name := "syntaxText", fn := fun _ => fun
  | [d1, d2] => { results := [.lit (.bool true)], args := [d1, d2] }
  | _ => none }
def syntaxTextRow : OpenClaim := { program := "ytnolpmigiboanaa", sum := "63eed3e360101593f0530d922aad3399d27bf0d94948d64ae3d7953d0f247551", func := "schemalens/schemalenslaw07.SyntaxText", spec := "syntaxText", inPlace := ["internal/abi.NoEscape"], unfollowed := true, recurses := true, loops := true, apart := false }
def SyntaxTextSaid : Prop := syntaxTextRow.holds Try.pinned (OpenSpec.ofChange syntaxTextSpec)

/-- ITS FALSE NEIGHBOUR: 'it returns false'. Refute it at one input. -/
def syntaxTextWrong : ChangeSpec := { name := "syntaxText", fn := fun _ => fun
  | [d1, d2] => { results := [.lit (.bool false)], args := [d1, d2] }
  | _ => none }
def SyntaxTextWrongFalsely : Prop := syntaxTextRow.holds Try.pinned (OpenSpec.ofChange syntaxTextWrong)

/-- 'schemalenslaw07.SyntaxCovers': WHATEVER THE INPUT: true; the input reads as it did. -/
def syntaxCoversSpec : ChangeSpec := { name := "syntaxCovers", fn := fun _ => fun
  | [d] => { results := [.lit (.bool true)], args := [d] }
  | _ => none }
def syntaxCoversRow : OpenClaim := { program := "ytnolpmigiboanaa", sum := "63eed3e360101593f0530d922aad3399d27bf0d94948d64ae3d7953d0f247551", func := "schemalens/schemalenslaw07.SyntaxCovers", spec := "syntaxCovers", inPlace := ["internal/abi.NoEscape"], unfollowed := true, recurses := true, apart := false }
def SyntaxCoversSaid : Prop := syntaxCoversRow.holds Try.pinned (OpenSpec.ofChange syntaxCoversSpec)

/-- ITS FALSE NEIGHBOUR: 'it returns false'. Refute it at one input. -/
def syntaxCoversWrong : ChangeSpec := { name := "syntaxCovers", fn := fun _ => fun
  | [d] => { results := [.lit (.bool false)], args := [d] }
  | _ => none }
def SyntaxCoversWrongFalsely : Prop := syntaxCoversRow.holds Try.pinned (OpenSpec.ofChange syntaxCoversWrong)

/-- 'schemalenslaw07.SyntaxReplace': WHATEVER THE INPUT: true; the input reads as it did. -/
def syntaxReplaceSpec : ChangeSpec := { name := "syntaxReplace", fn := fun _ => fun
  | [d1, d2, d3, d4] => { results := [.lit (.bool true)], args := [d1, d2, d3, d4] }
  | _ => none }
def syntaxReplaceRow : OpenClaim := { program := "ytnolpmigiboanaa", sum := "63eed3e360101593f0530d922aad3399d27bf0d94948d64ae3d7953d0f247551", func := "schemalens/schemalenslaw07.SyntaxReplace", spec := "syntaxReplace", inPlace := ["internal/abi.NoEscape"], unfollowed := true, recurses := true, loops := true, apart := false }
def SyntaxReplaceSaid : Prop := syntaxReplaceRow.holds Try.pinned (OpenSpec.ofChange syntaxReplaceSpec)

/-- ITS FALSE NEIGHBOUR: 'it returns false'. Refute it at one input. -/
def syntaxReplaceWrong : ChangeSpec := { name := "syntaxReplace", fn := fun _ => fun
  | [d1, d2, d3, d4] => { results := [.lit (.bool false)], args := [d1, d2, d3, d4] }
  | _ => none }
def SyntaxReplaceWrongFalsely : Prop := syntaxReplaceRow.holds Try.pinned (OpenSpec.ofChange syntaxReplaceWrong)

/-- 'schemalenslaw07.SyntaxEqual': WHATEVER THE INPUT: true; the input reads as it did. -/
def syntaxEqualSpec : ChangeSpec := { name := "syntaxEqual", fn := fun _ => fun
  | [d1, d2, d3, d4, d5] => { results := [.lit (.bool true)], args := [d1, d2, d3, d4, d5] }
  | _ => none }
def syntaxEqualRow : OpenClaim := { program := "ytnolpmigiboanaa", sum := "63eed3e360101593f0530d922aad3399d27bf0d94948d64ae3d7953d0f247551", func := "schemalens/schemalenslaw07.SyntaxEqual", spec := "syntaxEqual", inPlace := ["internal/abi.NoEscape"], unfollowed := true, recurses := true, loops := true, apart := false }
def SyntaxEqualSaid : Prop := syntaxEqualRow.holds Try.pinned (OpenSpec.ofChange syntaxEqualSpec)

/-- ITS FALSE NEIGHBOUR: 'it returns false'. Refute it at one input. -/
def syntaxEqualWrong : ChangeSpec := { name := "syntaxEqual", fn := fun _ => fun
  | [d1, d2, d3, d4, d5] => { results := [.lit (.bool false)], args := [d1, d2, d3, d4, d5] }
  | _ => none }
def SyntaxEqualWrongFalsely : Prop := syntaxEqualRow.holds Try.pinned (OpenSpec.ofChange syntaxEqualWrong)

/-- 'schemalenslaw07.SyntaxNumber': WHATEVER THE INPUT: true; the input reads as it did. -/
def syntaxNumberSpec : ChangeSpec := { name := "syntaxNumber", fn := fun _ => fun
  | [d1, d2] => { results := [.lit (.bool true)], args := [d1, d2] }
  | _ => none }
def syntaxNumberRow : OpenClaim := { program := "ytnolpmigiboanaa", sum := "63eed3e360101593f0530d922aad3399d27bf0d94948d64ae3d7953d0f247551", func := "schemalens/schemalenslaw07.SyntaxNumber", spec := "syntaxNumber", inPlace := ["internal/abi.NoEscape"], unfollowed := true, recurses := true, apart := false }
def SyntaxNumberSaid : Prop := syntaxNumberRow.holds Try.pinned (OpenSpec.ofChange syntaxNumberSpec)

/-- ITS FALSE NEIGHBOUR: 'it returns false'. Refute it at one input. -/
def syntaxNumberWrong : ChangeSpec := { name := "syntaxNumber", fn := fun _ => fun
  | [d1, d2] => { results := [.lit (.bool false)], args := [d1, d2] }
  | _ => none }
def SyntaxNumberWrongFalsely : Prop := syntaxNumberRow.holds Try.pinned (OpenSpec.ofChange syntaxNumberWrong)

/-- 'schemalenslaw07.SyntaxEdits': WHATEVER THE INPUT: true; the input reads as it did. -/
def syntaxEditsSpec : ChangeSpec := { name := "syntaxEdits", fn := fun _ => fun
  | [d1, d2, d3] => { results := [.lit (.bool true)], args := [d1, d2, d3] }
  | _ => none }
def syntaxEditsRow : OpenClaim := { program := "ytnolpmigiboanaa", sum := "63eed3e360101593f0530d922aad3399d27bf0d94948d64ae3d7953d0f247551", func := "schemalens/schemalenslaw07.SyntaxEdits", spec := "syntaxEdits", inPlace := ["internal/abi.NoEscape"], unfollowed := true, recurses := true, apart := false }
def SyntaxEditsSaid : Prop := syntaxEditsRow.holds Try.pinned (OpenSpec.ofChange syntaxEditsSpec)

/-- ITS FALSE NEIGHBOUR: 'it returns false'. Refute it at one input. -/
def syntaxEditsWrong : ChangeSpec := { name := "syntaxEdits", fn := fun _ => fun
  | [d1, d2, d3] => { results := [.lit (.bool false)], args := [d1, d2, d3] }
  | _ => none }
def SyntaxEditsWrongFalsely : Prop := syntaxEditsRow.holds Try.pinned (OpenSpec.ofChange syntaxEditsWrong)

/- THE SECOND FORM. 'bulk': how many values and letters a reading holds, each counted each time it is reached (what is shared counts as often as it is met; a slice's spare places count too). A statement '..UptoSaid' is the law's where the arguments, and the package variables that the reading takes, are together of bulk at most 1048576: NARROWER than '..Said'. Prove '..Said' where nothing that the law and all that it calls make is longer than what came in: it says more and counts as full. Else prove '..UptoSaid'. A law counts once. -/
mutual
def uptoBulk {H : Type} : DataW H → Nat
  | .lit (.string bytes) => bytes.length + 1
  | .lit _ => 1
  | .nil => 1
  | .ptr d => uptoBulk d + 1
  | .slice elems spare => uptoBulkAll elems + uptoBulkAll spare + 1
  | .agg parts => uptoBulkAll parts + 1
  | .iface _ d => uptoBulk d + 1
  | .map entries => uptoBulkEntries entries + 1
  | .held _ => 1
def uptoBulkAll {H : Type} : List (DataW H) → Nat
  | [] => 0
  | d :: r => uptoBulk d + uptoBulkAll r
def uptoBulkEntries {H : Type} : List (Lit × DataW H) → Nat
  | [] => 0
  | x :: r => uptoBulkEntry x + uptoBulkEntries r
def uptoBulkEntry {H : Type} : Lit × DataW H → Nat
  | (.string bytes, d) => bytes.length + uptoBulk d + 1
  | (_, d) => uptoBulk d + 1
 end
def uptoSmall : (H : Type) → List (DataW H) → Bool := fun _ ds => decide (uptoBulkAll ds ≤ 1048576)
def OpenSpec.upto (s : _root_.Go.ChangeSpec) : _root_.Go.OpenSpec := { _root_.Go.OpenSpec.ofChange s with cond := some uptoSmall }

/-- 'schemalenslaw07.SyntaxPath', WHERE WHAT IT READS IS OF BULK AT MOST 1048576: true; the input reads as it did. -/
def syntaxPathUptoRow : OpenClaim := { program := "ytnolpmigiboanaa", sum := "63eed3e360101593f0530d922aad3399d27bf0d94948d64ae3d7953d0f247551", func := "schemalens/schemalenslaw07.SyntaxPath", spec := "syntaxPath", inPlace := ["internal/abi.NoEscape"], unfollowed := true, recurses := true, loops := true, apart := false, narrowed := true }
def SyntaxPathUptoSaid : Prop := syntaxPathUptoRow.holds Try.pinned (OpenSpec.upto syntaxPathSpec)

/-- 'schemalenslaw07.SyntaxGet', WHERE WHAT IT READS IS OF BULK AT MOST 1048576: true; the input reads as it did. -/
def syntaxGetUptoRow : OpenClaim := { program := "ytnolpmigiboanaa", sum := "63eed3e360101593f0530d922aad3399d27bf0d94948d64ae3d7953d0f247551", func := "schemalens/schemalenslaw07.SyntaxGet", spec := "syntaxGet", inPlace := ["internal/abi.NoEscape"], unfollowed := true, recurses := true, apart := false, narrowed := true }
def SyntaxGetUptoSaid : Prop := syntaxGetUptoRow.holds Try.pinned (OpenSpec.upto syntaxGetSpec)

/-- 'schemalenslaw07.SyntaxText', WHERE WHAT IT READS IS OF BULK AT MOST 1048576: true; the input reads as it did. -/
def syntaxTextUptoRow : OpenClaim := { program := "ytnolpmigiboanaa", sum := "63eed3e360101593f0530d922aad3399d27bf0d94948d64ae3d7953d0f247551", func := "schemalens/schemalenslaw07.SyntaxText", spec := "syntaxText", inPlace := ["internal/abi.NoEscape"], unfollowed := true, recurses := true, loops := true, apart := false, narrowed := true }
def SyntaxTextUptoSaid : Prop := syntaxTextUptoRow.holds Try.pinned (OpenSpec.upto syntaxTextSpec)

/-- 'schemalenslaw07.SyntaxCovers', WHERE WHAT IT READS IS OF BULK AT MOST 1048576: true; the input reads as it did. -/
def syntaxCoversUptoRow : OpenClaim := { program := "ytnolpmigiboanaa", sum := "63eed3e360101593f0530d922aad3399d27bf0d94948d64ae3d7953d0f247551", func := "schemalens/schemalenslaw07.SyntaxCovers", spec := "syntaxCovers", inPlace := ["internal/abi.NoEscape"], unfollowed := true, recurses := true, apart := false, narrowed := true }
def SyntaxCoversUptoSaid : Prop := syntaxCoversUptoRow.holds Try.pinned (OpenSpec.upto syntaxCoversSpec)

/-- 'schemalenslaw07.SyntaxReplace', WHERE WHAT IT READS IS OF BULK AT MOST 1048576: true; the input reads as it did. -/
def syntaxReplaceUptoRow : OpenClaim := { program := "ytnolpmigiboanaa", sum := "63eed3e360101593f0530d922aad3399d27bf0d94948d64ae3d7953d0f247551", func := "schemalens/schemalenslaw07.SyntaxReplace", spec := "syntaxReplace", inPlace := ["internal/abi.NoEscape"], unfollowed := true, recurses := true, loops := true, apart := false, narrowed := true }
def SyntaxReplaceUptoSaid : Prop := syntaxReplaceUptoRow.holds Try.pinned (OpenSpec.upto syntaxReplaceSpec)

/-- 'schemalenslaw07.SyntaxEqual', WHERE WHAT IT READS IS OF BULK AT MOST 1048576: true; the input reads as it did. -/
def syntaxEqualUptoRow : OpenClaim := { program := "ytnolpmigiboanaa", sum := "63eed3e360101593f0530d922aad3399d27bf0d94948d64ae3d7953d0f247551", func := "schemalens/schemalenslaw07.SyntaxEqual", spec := "syntaxEqual", inPlace := ["internal/abi.NoEscape"], unfollowed := true, recurses := true, loops := true, apart := false, narrowed := true }
def SyntaxEqualUptoSaid : Prop := syntaxEqualUptoRow.holds Try.pinned (OpenSpec.upto syntaxEqualSpec)

/-- 'schemalenslaw07.SyntaxNumber', WHERE WHAT IT READS IS OF BULK AT MOST 1048576: true; the input reads as it did. -/
def syntaxNumberUptoRow : OpenClaim := { program := "ytnolpmigiboanaa", sum := "63eed3e360101593f0530d922aad3399d27bf0d94948d64ae3d7953d0f247551", func := "schemalens/schemalenslaw07.SyntaxNumber", spec := "syntaxNumber", inPlace := ["internal/abi.NoEscape"], unfollowed := true, recurses := true, apart := false, narrowed := true }
def SyntaxNumberUptoSaid : Prop := syntaxNumberUptoRow.holds Try.pinned (OpenSpec.upto syntaxNumberSpec)

/-- 'schemalenslaw07.SyntaxEdits', WHERE WHAT IT READS IS OF BULK AT MOST 1048576: true; the input reads as it did. -/
def syntaxEditsUptoRow : OpenClaim := { program := "ytnolpmigiboanaa", sum := "63eed3e360101593f0530d922aad3399d27bf0d94948d64ae3d7953d0f247551", func := "schemalens/schemalenslaw07.SyntaxEdits", spec := "syntaxEdits", inPlace := ["internal/abi.NoEscape"], unfollowed := true, recurses := true, apart := false, narrowed := true }
def SyntaxEditsUptoSaid : Prop := syntaxEditsUptoRow.holds Try.pinned (OpenSpec.upto syntaxEditsSpec)

end Rows
end Go.Proofs.Ytnolpmigiboanaa
