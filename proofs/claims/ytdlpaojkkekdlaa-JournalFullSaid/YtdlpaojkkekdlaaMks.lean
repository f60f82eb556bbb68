/- A slice of zero bytes that is made. No condition; over every program. -/
import Derived.Test.YtdlpaojkkekdlaaFul
import Derived.Laws.OwnMore
namespace Go.GL
set_option linter.unusedVariables false
def tyMk (P : Program) (t e : TypeId) : Bool := match P.underlying t, P.info? e with
  | some (.slice e'), some i => decide (e' = e) && Nat.beq i.size 1 && Nat.beq i.bytes 1 && (match i.zero with | some (.int .u8 k) => decide (k = 0) | _ => false)
  | _, _ => false
theorem made_bytes (n : Nat) : (madeCells #[Value.int .u8 0] (n * 1)).toList = bytesV (List.replicate n 0) := by
  refine List.ext_getElem (by simp [madeCells, bytesV]) fun i h1 h2 => ?_
  simp [madeCells, bytesV]
  rw [Nat.mod_one]; rfl
section
variable {P : Program} {r : Option Nat} {N : Nat} {ops : Array Oper} {rest : List Oper} {Q : Exit → Act → World → Prop} {E : Env} {ds : List Deferred} {M : List HP} {F : List Fact}
variable {d : Nat} {ty : TypeId} {pos : String} {aft : Array Edge} {gd : Option (Nat × Bool)}
theorem GV.makeBytes {t e n : Nat} {x y : Operand} (ht : tyMk P t e = true) (hx : evalO E x = some (I (n : Int))) (hy : evalO E y = some (I (n : Int))) (hn : n ≤ 16777216) : GV P E M F ⟨some d, .makeSlice t x y, ty, pos, aft, gd⟩ Nat (fun b => .slice (some ⟨b, 0, none⟩) n n) (fun b => OwnSl e 1 (some ⟨b, 0, none⟩) n n (bytesV (List.replicate n 0)) :: M) (fun _ => F) := ⟨rfl, fun ρ hρ w hw => by
  unfold tyMk at ht
  split at ht
  · rename_i e' i h1 h2
    simp only [Bool.and_eq_true, decide_eq_true_eq] at ht
    obtain ⟨⟨⟨rfl, h3⟩, h4⟩, h5⟩ := ht
    split at h5
    · rename_i k h6
      have hk := of_decide_eq_true h5
      subst hk
      have hs := Nat.eq_of_beq_eq_true h3
      have hb := Nat.eq_of_beq_eq_true h4
      obtain ⟨w', hrun, hown, hgr⟩ := run_makeSlice_full (P := P) (w := w) 0 t e' i (.int .u8 0) 1 h1 h2 h6 hs .i64 .i64 n (by omega) (by rw [hb]; omega) (by simp [maxLen]; omega) (Nat.zero_le _)
      refine ⟨w.heap.size, w', by simp [execOp, hρ _ _ hx, hρ _ _ hy, hrun], ?_⟩
      have e1 : (madeCells (Value.int .u8 0).cells (n * 1)).toList = bytesV (List.replicate n 0) := made_bytes n
      rw [e1] at hown
      exact hw.new hgr.os hgr.tape hgr.output hgr.size (fun b hb => hgr.block b hb (by simp)) (K' := [w.heap.size]) ⟨hown, rfl⟩ (by simp) (by simp)
    · cases h5
  · cases ht⟩
end
end Go.GL
