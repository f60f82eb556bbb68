/- A bit that is inverted: what the walk needs. No program. -/
import Derived.Test.YtdlpaojkkekdlaaDtc
namespace Go.GL
set_option linter.unusedVariables false
theorem flip_lt {a : UInt8} {s : Nat} : a.toNat ^^^ (1 * 2 ^ s % 256) < 256 := Nat.xor_lt_two_pow (n := 8) a.toNat_lt (Nat.mod_lt _ (by decide))
theorem flip_ne {a : UInt8} {s : Nat} (h : s < 8) : UInt8.ofNat (a.toNat ^^^ (1 * 2 ^ s % 256)) ≠ a := by
  intro e
  have h1 := congrArg UInt8.toNat e
  rw [u8_ofNat flip_lt] at h1
  have h2 : 1 * 2 ^ s % 256 = 0 := xor_cancel (h1.trans (Nat.xor_zero _).symm)
  have h3 : s = 0 ∨ s = 1 ∨ s = 2 ∨ s = 3 ∨ s = 4 ∨ s = 5 ∨ s = 6 ∨ s = 7 := by omega
  rcases h3 with rfl | rfl | rfl | rfl | rfl | rfl | rfl | rfl <;> exact absurd h2 (by decide)
theorem bytesV_at {l : List UInt8} {r : Int} (h : r.toNat < l.length) : (bytesV l)[0 + r.toNat * 1]? = some (B8 l[r.toNat].toNat) := by
  rw [Nat.zero_add, Nat.mul_one, bytesV, List.getElem?_map, List.getElem?_eq_getElem h]; rfl
theorem rd_frame {i : Int} {x : List UInt8} (h0 : -9223372036854775808 ≤ i) (h1 : i ≤ 9223372036854775807) (hx : x.length ≤ 4611686018427387000) : rdRaw (frameJ i x) 0 = (coreJ i x, encU (hashN jl (coreJ i x)), 0) := by
  have hc := coreJ_len h0 h1 (x := x) (by omega)
  unfold frameJ
  exact rdRaw_enc (by omega) _
theorem rd_hash {n : Nat} (h : n < 18446744073709551616) : rdU (encU n) 0 = (n, [], 0) := by
  have := rdU_enc h []
  rwa [List.append_nil] at this
theorem scan_one {x : List UInt8} (hx : x.length ≤ 4611686018427387000) : scanJ 0 (frameJ 0 x) = [x] := by
  have h := scanJ_frames [x] 0 [] ⟨by simp, fun y hy => by rw [List.mem_singleton.1 hy]; exact hx⟩
  rw [List.append_nil, show framesJ 0 [x] = frameJ 0 x from by rw [framesJ, framesJ, List.append_nil]; rfl, scanJ_nil] at h
  exact h
theorem end_one {x : List UInt8} (hx : x.length ≤ 4611686018427387000) : (framesJ 0 (scanJ 0 (frameJ 0 x))).length = (frameJ 0 x).length := by
  rw [scan_one hx, framesJ, framesJ, List.append_nil]; rfl
theorem ahead_lt {x : List UInt8} : aheadJ 0 x < (frameJ 0 x).length := by
  unfold aheadJ frameJ encR
  have := encU_pos (hashN jl (coreJ 0 x))
  simp only [List.length_append]; omega
end Go.GL
