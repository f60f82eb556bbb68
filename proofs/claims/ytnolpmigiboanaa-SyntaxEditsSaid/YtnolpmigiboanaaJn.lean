/- Closed facts of seat 07 that every row of it needs. -/
import Derived.Test.YtnolpmigiboanaaJoin
import Derived.Test.YtnolpmigiboanaaRows
namespace Go.Proofs.Ytnolpmigiboanaa
open Go.ChangeShapes Go.WideShapes Go.ChangeAt Go.RowKit Go.GL Go.GL.Tree
theorem own_ : ownKnob Try.prog.godebug = none := by kernel_rfl
theorem laidOut_ : laidOutB Try.prog = true := by kernel_rfl
theorem node25 : nodeOk Try.prog 25 = true := by kernel_rfl
theorem sl22 : isSl Try.prog 22 3 = true := by kernel_rfl
theorem i64_3 : isI64 Try.prog 3 = true := by kernel_rfl
theorem one3 : Nat.beq (Try.prog.cellsOf 3) 1 = true := by kernel_rfl
end Go.Proofs.Ytnolpmigiboanaa
