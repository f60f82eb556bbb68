/-
  No cell of these rows narrows 'for every input' (looked for: loops, veiled, ifaces, maps, wideKeys, modest, calm, conditions, laid).
  DERIVED. THE GIVEN ROWS OF THIS SEAT. 6 by the template 'for every input the law returns true; each argument reads behind the call as it read before'; 0 by the template 'total and deterministic' (their statements: YthefimaaeilefaaTotals.lean).
  GIVEN WITH THE SEED: the statements are not yours to turn. If you find one false, say at which input.
  Laid BY PROGRAM, IN A SANDBOX (cutbox-rows.mjs): the forced cells as the released guide's own fill.sh prints them over the translation 0322cee64f58ad84… (all of the seat's roots in one cut). By AI agents, Wed Nov 11 2026. No macro, syntax, notation, axiom, sorry.
-/
import Derived.Test.YthefimaaeilefaaChecked
import GoSem.Claim
import GoSem.ClaimJoined
import GoSem.ClaimMapViews
import Derived.JoinedTies
import Derived.KernelRfl
namespace Go.Proofs.Ythefimaaeilefaa
/- THE CELL 'sum', in the pinned program and in every row, IS THE sha256 OF THE DUMP (.gsa) THAT YthefimaaeilefaaProg.lean LOADS. Nothing in Lean hashes anything: it is a label: what it is worth is what the hold of that sum in a sandbox is worth. -/
noncomputable def Try.pinned : Pinned := { name := "ythefimaaeilefaa", sum := "0322cee64f58ad84dc502b1528e5cc2c5e42842c7785398d6ccab16a5b0079f5", checked := Try.checked }
namespace Rows
def none {H : Type} : Left H := { results := [], args := [] }

/-- 'schemalenslaw22.MemoCycles': WHATEVER THE INPUT: true; the input reads as it did. -/
def memoCyclesSpec : ChangeSpec := { name := "memoCycles", fn := fun _ => fun
  | [d1, d2, d3] => { results := [.lit (.bool true)], args := [d1, d2, d3] }
  | _ => none }
def memoCyclesRow : OpenClaim := { program := "ythefimaaeilefaa", sum := "0322cee64f58ad84dc502b1528e5cc2c5e42842c7785398d6ccab16a5b0079f5", func := "schemalens/schemalenslaw22.MemoCycles", spec := "memoCycles", unfollowed := true, recurses := true, apart := false }
def MemoCyclesSaid : Prop := memoCyclesRow.holds Try.pinned (OpenSpec.ofChange memoCyclesSpec)

/-- ITS FALSE NEIGHBOUR: 'it returns false'. Refute it at one input. -/
def memoCyclesWrong : ChangeSpec := { name := "memoCycles", fn := fun _ => fun
  | [d1, d2, d3] => { results := [.lit (.bool false)], args := [d1, d2, d3] }
  | _ => none }
def MemoCyclesWrongFalsely : Prop := memoCyclesRow.holds Try.pinned (OpenSpec.ofChange memoCyclesWrong)

/-- 'schemalenslaw22.MemoCutoff': WHATEVER THE INPUT: true; the input reads as it did. -/
def memoCutoffSpec : ChangeSpec := { name := "memoCutoff", fn := fun _ => fun
  | [d1, d2, d3] => { results := [.lit (.bool true)], args := [d1, d2, d3] }
  | _ => none }
def memoCutoffRow : OpenClaim := { program := "ythefimaaeilefaa", sum := "0322cee64f58ad84dc502b1528e5cc2c5e42842c7785398d6ccab16a5b0079f5", func := "schemalens/schemalenslaw22.MemoCutoff", spec := "memoCutoff", unfollowed := true, recurses := true, apart := false }
def MemoCutoffSaid : Prop := memoCutoffRow.holds Try.pinned (OpenSpec.ofChange memoCutoffSpec)

/-- ITS FALSE NEIGHBOUR: 'it returns false'. Refute it at one input. -/
def memoCutoffWrong : ChangeSpec := { name := "memoCutoff", fn := fun _ => fun
  | [d1, d2, d3] => { results := [.lit (.bool false)], args := [d1, d2, d3] }
  | _ => none }
def MemoCutoffWrongFalsely : Prop := memoCutoffRow.holds Try.pinned (OpenSpec.ofChange memoCutoffWrong)

/-- 'schemalenslaw22.MemoOrder': WHATEVER THE INPUT: true; the input reads as it did. -/
def memoOrderSpec : ChangeSpec := { name := "memoOrder", fn := fun _ => fun
  | [d1, d2] => { results := [.lit (.bool true)], args := [d1, d2] }
  | _ => none }
def memoOrderRow : OpenClaim := { program := "ythefimaaeilefaa", sum := "0322cee64f58ad84dc502b1528e5cc2c5e42842c7785398d6ccab16a5b0079f5", func := "schemalens/schemalenslaw22.MemoOrder", spec := "memoOrder", unfollowed := true, recurses := true, apart := false }
def MemoOrderSaid : Prop := memoOrderRow.holds Try.pinned (OpenSpec.ofChange memoOrderSpec)

/-- ITS FALSE NEIGHBOUR: 'it returns false'. Refute it at one input. -/
def memoOrderWrong : ChangeSpec := { name := "memoOrder", fn := fun _ => fun
  | [d1, d2] => { results := [.lit (.bool false)], args := [d1, d2] }
  | _ => none }
def MemoOrderWrongFalsely : Prop := memoOrderRow.holds Try.pinned (OpenSpec.ofChange memoOrderWrong)

/-- 'schemalenslaw22.MemoMinimal': WHATEVER THE INPUT: true; the input reads as it did. -/
def memoMinimalSpec : ChangeSpec := { name := "memoMinimal", fn := fun _ => fun
  | [d1, d2, d3, d4] => { results := [.lit (.bool true)], args := [d1, d2, d3, d4] }
  | _ => none }
def memoMinimalRow : OpenClaim := { program := "ythefimaaeilefaa", sum := "0322cee64f58ad84dc502b1528e5cc2c5e42842c7785398d6ccab16a5b0079f5", func := "schemalens/schemalenslaw22.MemoMinimal", spec := "memoMinimal", unfollowed := true, recurses := true, apart := false }
def MemoMinimalSaid : Prop := memoMinimalRow.holds Try.pinned (OpenSpec.ofChange memoMinimalSpec)

/-- ITS FALSE NEIGHBOUR: 'it returns false'. Refute it at one input. -/
def memoMinimalWrong : ChangeSpec := { name := "memoMinimal", fn := fun _ => fun
  | [d1, d2, d3, d4] => { results := [.lit (.bool false)], args := [d1, d2, d3, d4] }
  | _ => none }
def MemoMinimalWrongFalsely : Prop := memoMinimalRow.holds Try.pinned (OpenSpec.ofChange memoMinimalWrong)

/-- 'schemalenslaw22.MemoFresh': WHATEVER THE INPUT: true; the input reads as it did. -/
def memoFreshSpec : ChangeSpec := { name := "memoFresh", fn := fun _ => fun
  | [d1, d2, d3] => { results := [.lit (.bool true)], args := [d1, d2, d3] }
  | _ => none }
def memoFreshRow : OpenClaim := { program := "ythefimaaeilefaa", sum := "0322cee64f58ad84dc502b1528e5cc2c5e42842c7785398d6ccab16a5b0079f5", func := "schemalens/schemalenslaw22.MemoFresh", spec := "memoFresh", unfollowed := true, recurses := true, apart := false }
def MemoFreshSaid : Prop := memoFreshRow.holds Try.pinned (OpenSpec.ofChange memoFreshSpec)

/-- ITS FALSE NEIGHBOUR: 'it returns false'. Refute it at one input. -/
def memoFreshWrong : ChangeSpec := { name := "memoFresh", fn := fun _ => fun
  | [d1, d2, d3] => { results := [.lit (.bool false)], args := [d1, d2, d3] }
  | _ => none }
def MemoFreshWrongFalsely : Prop := memoFreshRow.holds Try.pinned (OpenSpec.ofChange memoFreshWrong)

/-- 'schemalenslaw22.MemoFuel': WHATEVER THE INPUT: true; the input reads as it did. -/
def memoFuelSpec : ChangeSpec := { name := "memoFuel", fn := fun _ => fun
  | [d1, d2, d3] => { results := [.lit (.bool true)], args := [d1, d2, d3] }
  | _ => none }
def memoFuelRow : OpenClaim := { program := "ythefimaaeilefaa", sum := "0322cee64f58ad84dc502b1528e5cc2c5e42842c7785398d6ccab16a5b0079f5", func := "schemalens/schemalenslaw22.MemoFuel", spec := "memoFuel", unfollowed := true, recurses := true, apart := false }
def MemoFuelSaid : Prop := memoFuelRow.holds Try.pinned (OpenSpec.ofChange memoFuelSpec)

/-- ITS FALSE NEIGHBOUR: 'it returns false'. Refute it at one input. -/
def memoFuelWrong : ChangeSpec := { name := "memoFuel", fn := fun _ => fun
  | [d1, d2, d3] => { results := [.lit (.bool false)], args := [d1, d2, d3] }
  | _ => none }
def MemoFuelWrongFalsely : Prop := memoFuelRow.holds Try.pinned (OpenSpec.ofChange memoFuelWrong)

/- THE SECOND FORM. 'bulk': how many values and letters a reading holds, each counted each time it is reached (what is shared counts as often as it is met; a slice's spare places count too). A statement '..UptoSaid' is the law's where the arguments, and the package variables that the reading takes, are together of bulk at most 1048576: NARROWER than '..Said'. Prove '..Said' where nothing that the law and all that it calls make is longer than what came in: it says more and counts as full. Else prove '..UptoSaid'. A law counts once. -/
mutual
def uptoBulk {H : Type} : DataW H → Nat
  | .lit (.string bytes) => bytes.length + 1
  | .lit _ => 1
  | .nil => 1
  | .ptr d => uptoBulk d + 1
  | .slice elems spare => uptoBulkAll elems + uptoBulkAll spare + 1
  | .agg parts => uptoBulkAll parts + 1
  | .iface _ d => uptoBulk d + 1
  | .map entries => uptoBulkEntries entries + 1
  | .held _ => 1
def uptoBulkAll {H : Type} : List (DataW H) → Nat
  | [] => 0
  | d :: r => uptoBulk d + uptoBulkAll r
def uptoBulkEntries {H : Type} : List (Lit × DataW H) → Nat
  | [] => 0
  | x :: r => uptoBulkEntry x + uptoBulkEntries r
def uptoBulkEntry {H : Type} : Lit × DataW H → Nat
  | (.string bytes, d) => bytes.length + uptoBulk d + 1
  | (_, d) => uptoBulk d + 1
 end
def uptoSmall : (H : Type) → List (DataW H) → Bool := fun _ ds => decide (uptoBulkAll ds ≤ 1048576)
def OpenSpec.upto (s : _root_.Go.ChangeSpec) : _root_.Go.OpenSpec := { _root_.Go.OpenSpec.ofChange s with cond := some uptoSmall }

/-- 'schemalenslaw22.MemoCycles', WHERE WHAT IT READS IS OF BULK AT MOST 1048576: true; the input reads as it did. -/
def memoCyclesUptoRow : OpenClaim := { program := "ythefimaaeilefaa", sum := "0322cee64f58ad84dc502b1528e5cc2c5e42842c7785398d6ccab16a5b0079f5", func := "schemalens/schemalenslaw22.MemoCycles", spec := "memoCycles", unfollowed := true, recurses := true, apart := false, narrowed := true }
def MemoCyclesUptoSaid : Prop := memoCyclesUptoRow.holds Try.pinned (OpenSpec.upto memoCyclesSpec)

/-- 'schemalenslaw22.MemoCutoff', WHERE WHAT IT READS IS OF BULK AT MOST 1048576: true; the input reads as it did. -/
def memoCutoffUptoRow : OpenClaim := { program := "ythefimaaeilefaa", sum := "0322cee64f58ad84dc502b1528e5cc2c5e42842c7785398d6ccab16a5b0079f5", func := "schemalens/schemalenslaw22.MemoCutoff", spec := "memoCutoff", unfollowed := true, recurses := true, apart := false, narrowed := true }
def MemoCutoffUptoSaid : Prop := memoCutoffUptoRow.holds Try.pinned (OpenSpec.upto memoCutoffSpec)

/-- 'schemalenslaw22.MemoOrder', WHERE WHAT IT READS IS OF BULK AT MOST 1048576: true; the input reads as it did. -/
def memoOrderUptoRow : OpenClaim := { program := "ythefimaaeilefaa", sum := "0322cee64f58ad84dc502b1528e5cc2c5e42842c7785398d6ccab16a5b0079f5", func := "schemalens/schemalenslaw22.MemoOrder", spec := "memoOrder", unfollowed := true, recurses := true, apart := false, narrowed := true }
def MemoOrderUptoSaid : Prop := memoOrderUptoRow.holds Try.pinned (OpenSpec.upto memoOrderSpec)

/-- 'schemalenslaw22.MemoMinimal', WHERE WHAT IT READS IS OF BULK AT MOST 1048576: true; the input reads as it did. -/
def memoMinimalUptoRow : OpenClaim := { program := "ythefimaaeilefaa", sum := "0322cee64f58ad84dc502b1528e5cc2c5e42842c7785398d6ccab16a5b0079f5", func := "schemalens/schemalenslaw22.MemoMinimal", spec := "memoMinimal", unfollowed := true, recurses := true, apart := false, narrowed := true }
def MemoMinimalUptoSaid : Prop := memoMinimalUptoRow.holds Try.pinned (OpenSpec.upto memoMinimalSpec)

/-- 'schemalenslaw22.MemoFresh', WHERE WHAT IT READS IS OF BULK AT MOST 1048576: true; the input reads as it did. -/
def memoFreshUptoRow : OpenClaim := { program := "ythefimaaeilefaa", sum := "0322cee64f58ad84dc502b1528e5cc2c5e42842c7785398d6ccab16a5b0079f5", func := "schemalens/schemalenslaw22.MemoFresh", spec := "memoFresh", unfollowed := true, recurses := true, apart := false, narrowed := true }
def MemoFreshUptoSaid : Prop := memoFreshUptoRow.holds Try.pinned (OpenSpec.upto memoFreshSpec)

/-- 'schemalenslaw22.MemoFuel', WHERE WHAT IT READS IS OF BULK AT MOST 1048576: true; the input reads as it did. -/
def memoFuelUptoRow : OpenClaim := { program := "ythefimaaeilefaa", sum := "0322cee64f58ad84dc502b1528e5cc2c5e42842c7785398d6ccab16a5b0079f5", func := "schemalens/schemalenslaw22.MemoFuel", spec := "memoFuel", unfollowed := true, recurses := true, apart := false, narrowed := true }
def MemoFuelUptoSaid : Prop := memoFuelUptoRow.holds Try.pinned (OpenSpec.upto memoFuelSpec)

end Rows
end Go.Proofs.Ythefimaaeilefaa
