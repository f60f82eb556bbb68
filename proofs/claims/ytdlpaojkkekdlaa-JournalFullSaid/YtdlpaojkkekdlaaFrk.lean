/- A byte that is replaced. No program. -/
import Derived.Test.YtdlpaojkkekdlaaFrj
namespace Go.GL
set_option linter.unusedVariables false
theorem bytesV_set {l : List UInt8} {r : Int} {q : Int} (h0 : 0 ≤ q) (h1 : q ≤ 255) (hr : r.toNat < l.length) : bytesV (l.set r.toNat (UInt8.ofNat q.toNat)) = (bytesV l).take (0 + r.toNat * 1) ++ [.int .u8 q] ++ (bytesV l).drop (0 + r.toNat * 1 + 1) := by
  have e : (Value.int .u8 q : Value) = .int .u8 ((UInt8.ofNat q.toNat).toNat : Int) := by
    rw [u8_ofNat (by omega)]; congr 1; omega
  rw [e, Nat.zero_add, Nat.mul_one, List.set_eq_take_append_cons_drop, if_pos hr]
  simp [bytesV]
end Go.GL
