/- Closed facts of seat 35 that every row of it needs. -/
import Derived.Test.YtdlpaojkkekdlaaApk
import Derived.Test.YtdlpaojkkekdlaaRows
namespace Go.Proofs.Ytdlpaojkkekdlaa
open Go.ChangeShapes Go.WideShapes Go.ChangeAt Go.RowKit Go.GL Go.GL.Tree
theorem own_ : ownKnob Try.prog.godebug = none := by kernel_rfl
theorem laidOut_ : laidOutB Try.prog = true := by kernel_rfl
theorem sl22 : isSl Try.prog 22 3 = true := by kernel_rfl
theorem i64_3 : isI64 Try.prog 3 = true := by kernel_rfl
theorem one3 : Nat.beq (Try.prog.cellsOf 3) 1 = true := by kernel_rfl
theorem sl23 : isSl Try.prog 23 5 = true := by kernel_rfl
theorem u8_5 : tyInt Try.prog 5 .u8 = true := by kernel_rfl
theorem one5 : Nat.beq (Try.prog.cellsOf 5) 1 = true := by kernel_rfl
end Go.Proofs.Ytdlpaojkkekdlaa
