/-
  No cell of these rows narrows 'for every input' (looked for: loops, veiled, ifaces, maps, wideKeys, modest, calm, conditions, laid).
  DERIVED. THE GIVEN ROWS OF THIS SEAT. 7 by the template 'for every input the law returns true; each argument reads behind the call as it read before'; 0 by the template 'total and deterministic' (their statements: YtkdeopioelocnaaTotals.lean).
  GIVEN WITH THE SEED: the statements are not yours to turn. If you find one false, say at which input.
  Laid BY PROGRAM, IN A SANDBOX (cutbox-rows.mjs): the forced cells as the released guide's own fill.sh prints them over the translation 87a148005214baf3… (all of the seat's roots in one cut). By AI agents, Wed Nov 11 2026. No macro, syntax, notation, axiom, sorry.
-/
import Derived.Test.YtkdeopioelocnaaChecked
import GoSem.Claim
import GoSem.ClaimJoined
import GoSem.ClaimMapViews
import Derived.JoinedTies
import Derived.KernelRfl
namespace Go.Proofs.Ytkdeopioelocnaa
/- THE CELL 'sum', in the pinned program and in every row, IS THE sha256 OF THE DUMP (.gsa) THAT YtkdeopioelocnaaProg.lean LOADS. Nothing in Lean hashes anything: it is a label: what it is worth is what the hold of that sum in a sandbox is worth. -/
noncomputable def Try.pinned : Pinned := { name := "ytkdeopioelocnaa", sum := "87a148005214baf3502ce78208b67d71c5e23fd40391ebaee4745bb8646b8491", checked := Try.checked }
namespace Rows
def none {H : Type} : Left H := { results := [], args := [] }

/-- 'schemalenslaw05.DocumentPositions': WHATEVER THE INPUT: true; the input reads as it did. -/
def documentPositionsSpec : ChangeSpec := { name := "documentPositions", fn := fun _ => fun
  | [d1, d2] => { results := [.lit (.bool true)], args := [d1, d2] }
  | _ => none }
def documentPositionsRow : OpenClaim := { program := "ytkdeopioelocnaa", sum := "87a148005214baf3502ce78208b67d71c5e23fd40391ebaee4745bb8646b8491", func := "schemalens/schemalenslaw05.DocumentPositions", spec := "documentPositions", inPlace := ["internal/abi.NoEscape"], unfollowed := true, recurses := true, apart := false }
def DocumentPositionsSaid : Prop := documentPositionsRow.holds Try.pinned (OpenSpec.ofChange documentPositionsSpec)

/-- ITS FALSE NEIGHBOUR: 'it returns false'. Refute it at one input. -/
def documentPositionsWrong : ChangeSpec := { name := "documentPositions", fn := fun _ => fun
  | [d1, d2] => { results := [.lit (.bool false)], args := [d1, d2] }
  | _ => none }
def DocumentPositionsWrongFalsely : Prop := documentPositionsRow.holds Try.pinned (OpenSpec.ofChange documentPositionsWrong)

/-- 'schemalenslaw05.DocumentRemembers': WHATEVER THE INPUT: true; the input reads as it did. -/
def documentRemembersSpec : ChangeSpec := { name := "documentRemembers", fn := fun _ => fun
  | [d1, d2, d3] => { results := [.lit (.bool true)], args := [d1, d2, d3] }
  | _ => none }
def documentRemembersRow : OpenClaim := { program := "ytkdeopioelocnaa", sum := "87a148005214baf3502ce78208b67d71c5e23fd40391ebaee4745bb8646b8491", func := "schemalens/schemalenslaw05.DocumentRemembers", spec := "documentRemembers", inPlace := ["internal/abi.NoEscape"], unfollowed := true, recurses := true, apart := false }
def DocumentRemembersSaid : Prop := documentRemembersRow.holds Try.pinned (OpenSpec.ofChange documentRemembersSpec)

/-- ITS FALSE NEIGHBOUR: 'it returns false'. Refute it at one input. -/
def documentRemembersWrong : ChangeSpec := { name := "documentRemembers", fn := fun _ => fun
  | [d1, d2, d3] => { results := [.lit (.bool false)], args := [d1, d2, d3] }
  | _ => none }
def DocumentRemembersWrongFalsely : Prop := documentRemembersRow.holds Try.pinned (OpenSpec.ofChange documentRemembersWrong)

/-- 'schemalenslaw05.DocumentOrder': WHATEVER THE INPUT: true; the input reads as it did. -/
def documentOrderSpec : ChangeSpec := { name := "documentOrder", fn := fun _ => fun
  | [d1, d2] => { results := [.lit (.bool true)], args := [d1, d2] }
  | _ => none }
def documentOrderRow : OpenClaim := { program := "ytkdeopioelocnaa", sum := "87a148005214baf3502ce78208b67d71c5e23fd40391ebaee4745bb8646b8491", func := "schemalens/schemalenslaw05.DocumentOrder", spec := "documentOrder", inPlace := ["internal/abi.NoEscape"], unfollowed := true, recurses := true, apart := false }
def DocumentOrderSaid : Prop := documentOrderRow.holds Try.pinned (OpenSpec.ofChange documentOrderSpec)

/-- ITS FALSE NEIGHBOUR: 'it returns false'. Refute it at one input. -/
def documentOrderWrong : ChangeSpec := { name := "documentOrder", fn := fun _ => fun
  | [d1, d2] => { results := [.lit (.bool false)], args := [d1, d2] }
  | _ => none }
def DocumentOrderWrongFalsely : Prop := documentOrderRow.holds Try.pinned (OpenSpec.ofChange documentOrderWrong)

/-- 'schemalenslaw05.DocumentHolds': WHATEVER THE INPUT: true; the input reads as it did. -/
def documentHoldsSpec : ChangeSpec := { name := "documentHolds", fn := fun _ => fun
  | [d1, d2, d3] => { results := [.lit (.bool true)], args := [d1, d2, d3] }
  | _ => none }
def documentHoldsRow : OpenClaim := { program := "ytkdeopioelocnaa", sum := "87a148005214baf3502ce78208b67d71c5e23fd40391ebaee4745bb8646b8491", func := "schemalens/schemalenslaw05.DocumentHolds", spec := "documentHolds", inPlace := ["internal/abi.NoEscape"], unfollowed := true, recurses := true, apart := false }
def DocumentHoldsSaid : Prop := documentHoldsRow.holds Try.pinned (OpenSpec.ofChange documentHoldsSpec)

/-- ITS FALSE NEIGHBOUR: 'it returns false'. Refute it at one input. -/
def documentHoldsWrong : ChangeSpec := { name := "documentHolds", fn := fun _ => fun
  | [d1, d2, d3] => { results := [.lit (.bool false)], args := [d1, d2, d3] }
  | _ => none }
def DocumentHoldsWrongFalsely : Prop := documentHoldsRow.holds Try.pinned (OpenSpec.ofChange documentHoldsWrong)

/-- 'schemalenslaw05.DocumentCopies': WHATEVER THE INPUT: true; the input reads as it did. -/
def documentCopiesSpec : ChangeSpec := { name := "documentCopies", fn := fun _ => fun
  | [d1, d2, d3] => { results := [.lit (.bool true)], args := [d1, d2, d3] }
  | _ => none }
def documentCopiesRow : OpenClaim := { program := "ytkdeopioelocnaa", sum := "87a148005214baf3502ce78208b67d71c5e23fd40391ebaee4745bb8646b8491", func := "schemalens/schemalenslaw05.DocumentCopies", spec := "documentCopies", inPlace := ["internal/abi.NoEscape", "maps.clone"], unfollowed := true, recurses := true, apart := false }
def DocumentCopiesSaid : Prop := documentCopiesRow.holds Try.pinned (OpenSpec.ofChange documentCopiesSpec)

/-- ITS FALSE NEIGHBOUR: 'it returns false'. Refute it at one input. -/
def documentCopiesWrong : ChangeSpec := { name := "documentCopies", fn := fun _ => fun
  | [d1, d2, d3] => { results := [.lit (.bool false)], args := [d1, d2, d3] }
  | _ => none }
def DocumentCopiesWrongFalsely : Prop := documentCopiesRow.holds Try.pinned (OpenSpec.ofChange documentCopiesWrong)

/-- 'schemalenslaw05.DocumentRuns': WHATEVER THE INPUT: true; the input reads as it did. -/
def documentRunsSpec : ChangeSpec := { name := "documentRuns", fn := fun _ => fun
  | [d1, d2, d3, d4, d5, d6, d7, d8] => { results := [.lit (.bool true)], args := [d1, d2, d3, d4, d5, d6, d7, d8] }
  | _ => none }
def documentRunsRow : OpenClaim := { program := "ytkdeopioelocnaa", sum := "87a148005214baf3502ce78208b67d71c5e23fd40391ebaee4745bb8646b8491", func := "schemalens/schemalenslaw05.DocumentRuns", spec := "documentRuns", inPlace := ["internal/abi.NoEscape"], unfollowed := true, recurses := true, apart := false }
def DocumentRunsSaid : Prop := documentRunsRow.holds Try.pinned (OpenSpec.ofChange documentRunsSpec)

/-- ITS FALSE NEIGHBOUR: 'it returns false'. Refute it at one input. -/
def documentRunsWrong : ChangeSpec := { name := "documentRuns", fn := fun _ => fun
  | [d1, d2, d3, d4, d5, d6, d7, d8] => { results := [.lit (.bool false)], args := [d1, d2, d3, d4, d5, d6, d7, d8] }
  | _ => none }
def DocumentRunsWrongFalsely : Prop := documentRunsRow.holds Try.pinned (OpenSpec.ofChange documentRunsWrong)

/-- 'schemalenslaw05.DocumentRefuses': WHATEVER THE INPUT: true; the input reads as it did. -/
def documentRefusesSpec : ChangeSpec := { name := "documentRefuses", fn := fun _ => fun
  | [d1, d2, d3, d4, d5, d6] => { results := [.lit (.bool true)], args := [d1, d2, d3, d4, d5, d6] }
  | _ => none }
def documentRefusesRow : OpenClaim := { program := "ytkdeopioelocnaa", sum := "87a148005214baf3502ce78208b67d71c5e23fd40391ebaee4745bb8646b8491", func := "schemalens/schemalenslaw05.DocumentRefuses", spec := "documentRefuses", inPlace := ["internal/abi.NoEscape"], unfollowed := true, recurses := true, apart := false }
def DocumentRefusesSaid : Prop := documentRefusesRow.holds Try.pinned (OpenSpec.ofChange documentRefusesSpec)

/-- ITS FALSE NEIGHBOUR: 'it returns false'. Refute it at one input. -/
def documentRefusesWrong : ChangeSpec := { name := "documentRefuses", fn := fun _ => fun
  | [d1, d2, d3, d4, d5, d6] => { results := [.lit (.bool false)], args := [d1, d2, d3, d4, d5, d6] }
  | _ => none }
def DocumentRefusesWrongFalsely : Prop := documentRefusesRow.holds Try.pinned (OpenSpec.ofChange documentRefusesWrong)

/- THE SECOND FORM. 'bulk': how many values and letters a reading holds, each counted each time it is reached (what is shared counts as often as it is met; a slice's spare places count too). A statement '..UptoSaid' is the law's where the arguments, and the package variables that the reading takes, are together of bulk at most 1048576: NARROWER than '..Said'. Prove '..Said' where nothing that the law and all that it calls make is longer than what came in: it says more and counts as full. Else prove '..UptoSaid'. A law counts once. -/
mutual
def uptoBulk {H : Type} : DataW H → Nat
  | .lit (.string bytes) => bytes.length + 1
  | .lit _ => 1
  | .nil => 1
  | .ptr d => uptoBulk d + 1
  | .slice elems spare => uptoBulkAll elems + uptoBulkAll spare + 1
  | .agg parts => uptoBulkAll parts + 1
  | .iface _ d => uptoBulk d + 1
  | .map entries => uptoBulkEntries entries + 1
  | .held _ => 1
def uptoBulkAll {H : Type} : List (DataW H) → Nat
  | [] => 0
  | d :: r => uptoBulk d + uptoBulkAll r
def uptoBulkEntries {H : Type} : List (Lit × DataW H) → Nat
  | [] => 0
  | x :: r => uptoBulkEntry x + uptoBulkEntries r
def uptoBulkEntry {H : Type} : Lit × DataW H → Nat
  | (.string bytes, d) => bytes.length + uptoBulk d + 1
  | (_, d) => uptoBulk d + 1
 end
def uptoSmall : (H : Type) → List (DataW H) → Bool := fun _ ds => decide (uptoBulkAll ds ≤ 1048576)
def OpenSpec.upto (s : _root_.Go.ChangeSpec) : _root_.Go.OpenSpec := { _root_.Go.OpenSpec.ofChange s with cond := some uptoSmall }

/-- 'schemalenslaw05.DocumentPositions', WHERE WHAT IT READS IS OF BULK AT MOST 1048576: true; the input reads as it did. -/
def documentPositionsUptoRow : OpenClaim := { program := "ytkdeopioelocnaa", sum := "87a148005214baf3502ce78208b67d71c5e23fd40391ebaee4745bb8646b8491", func := "schemalens/schemalenslaw05.DocumentPositions", spec := "documentPositions", inPlace := ["internal/abi.NoEscape"], unfollowed := true, recurses := true, apart := false, narrowed := true }
def DocumentPositionsUptoSaid : Prop := documentPositionsUptoRow.holds Try.pinned (OpenSpec.upto documentPositionsSpec)

/-- 'schemalenslaw05.DocumentRemembers', WHERE WHAT IT READS IS OF BULK AT MOST 1048576: true; the input reads as it did. -/
def documentRemembersUptoRow : OpenClaim := { program := "ytkdeopioelocnaa", sum := "87a148005214baf3502ce78208b67d71c5e23fd40391ebaee4745bb8646b8491", func := "schemalens/schemalenslaw05.DocumentRemembers", spec := "documentRemembers", inPlace := ["internal/abi.NoEscape"], unfollowed := true, recurses := true, apart := false, narrowed := true }
def DocumentRemembersUptoSaid : Prop := documentRemembersUptoRow.holds Try.pinned (OpenSpec.upto documentRemembersSpec)

/-- 'schemalenslaw05.DocumentOrder', WHERE WHAT IT READS IS OF BULK AT MOST 1048576: true; the input reads as it did. -/
def documentOrderUptoRow : OpenClaim := { program := "ytkdeopioelocnaa", sum := "87a148005214baf3502ce78208b67d71c5e23fd40391ebaee4745bb8646b8491", func := "schemalens/schemalenslaw05.DocumentOrder", spec := "documentOrder", inPlace := ["internal/abi.NoEscape"], unfollowed := true, recurses := true, apart := false, narrowed := true }
def DocumentOrderUptoSaid : Prop := documentOrderUptoRow.holds Try.pinned (OpenSpec.upto documentOrderSpec)

/-- 'schemalenslaw05.DocumentHolds', WHERE WHAT IT READS IS OF BULK AT MOST 1048576: true; the input reads as it did. -/
def documentHoldsUptoRow : OpenClaim := { program := "ytkdeopioelocnaa", sum := "87a148005214baf3502ce78208b67d71c5e23fd40391ebaee4745bb8646b8491", func := "schemalens/schemalenslaw05.DocumentHolds", spec := "documentHolds", inPlace := ["internal/abi.NoEscape"], unfollowed := true, recurses := true, apart := false, narrowed := true }
def DocumentHoldsUptoSaid : Prop := documentHoldsUptoRow.holds Try.pinned (OpenSpec.upto documentHoldsSpec)

/-- 'schemalenslaw05.DocumentCopies', WHERE WHAT IT READS IS OF BULK AT MOST 1048576: true; the input reads as it did. -/
def documentCopiesUptoRow : OpenClaim := { program := "ytkdeopioelocnaa", sum := "87a148005214baf3502ce78208b67d71c5e23fd40391ebaee4745bb8646b8491", func := "schemalens/schemalenslaw05.DocumentCopies", spec := "documentCopies", inPlace := ["internal/abi.NoEscape", "maps.clone"], unfollowed := true, recurses := true, apart := false, narrowed := true }
def DocumentCopiesUptoSaid : Prop := documentCopiesUptoRow.holds Try.pinned (OpenSpec.upto documentCopiesSpec)

/-- 'schemalenslaw05.DocumentRuns', WHERE WHAT IT READS IS OF BULK AT MOST 1048576: true; the input reads as it did. -/
def documentRunsUptoRow : OpenClaim := { program := "ytkdeopioelocnaa", sum := "87a148005214baf3502ce78208b67d71c5e23fd40391ebaee4745bb8646b8491", func := "schemalens/schemalenslaw05.DocumentRuns", spec := "documentRuns", inPlace := ["internal/abi.NoEscape"], unfollowed := true, recurses := true, apart := false, narrowed := true }
def DocumentRunsUptoSaid : Prop := documentRunsUptoRow.holds Try.pinned (OpenSpec.upto documentRunsSpec)

/-- 'schemalenslaw05.DocumentRefuses', WHERE WHAT IT READS IS OF BULK AT MOST 1048576: true; the input reads as it did. -/
def documentRefusesUptoRow : OpenClaim := { program := "ytkdeopioelocnaa", sum := "87a148005214baf3502ce78208b67d71c5e23fd40391ebaee4745bb8646b8491", func := "schemalens/schemalenslaw05.DocumentRefuses", spec := "documentRefuses", inPlace := ["internal/abi.NoEscape"], unfollowed := true, recurses := true, apart := false, narrowed := true }
def DocumentRefusesUptoSaid : Prop := documentRefusesUptoRow.holds Try.pinned (OpenSpec.upto documentRefusesSpec)

end Rows
end Go.Proofs.Ytkdeopioelocnaa
