/- What the example of the section says, plainly. No program. -/
import Derived.Test.YtdlpaojkkekdlaaApk
import Derived.Test.YtdlpaojkkekdlaaJrn
namespace Go.GL
set_option linter.unusedVariables false
theorem core07 : coreJ 0 [7] = [0, 1, 7] := by
  unfold coreJ encR
  rw [show zz 0 = 0 from rfl, encU_small (by decide), show ([7] : List UInt8).length = 1 from rfl, encU_small (by decide)]
  rfl
theorem live_frame : [] ++ encR [0, 1, 7] ++ encU (hashN jl [0, 1, 7]) = frameJ 0 [7] := by
  unfold frameJ
  rw [core07, List.nil_append]
theorem encR3 : encR [0, 1, 7] = [3, 0, 1, 7] := by
  unfold encR
  rw [show ([0, 1, 7] : List UInt8).length = 3 from rfl, encU_small (by decide)]
  rfl
theorem live_len : 4 < (frameJ 0 [7]).length := by
  rw [← live_frame, encR3]
  have := encU_pos (hashN jl [0, 1, 7])
  rw [List.nil_append, List.length_append]
  show 4 < 4 + _
  omega
theorem rec301 : recOf [3, 0, 1] = [] := by decide +kernel
theorem live_no : ¬ frameJ (1 : Nat) (recOf [3, 0, 1]) <+: [3, 0, 1] := by
  rw [rec301]
  intro h
  have e : coreJ ((1 : Nat) : Int) [] = [2, 0] := by
    unfold coreJ encR
    rw [show zz ((1 : Nat) : Int) = 2 from rfl, encU_small (by decide), show ([] : List UInt8).length = 0 from rfl, encU_small (by decide)]
    rfl
  unfold frameJ at h
  rw [e] at h
  have e2 : encR [2, 0] = [2, 2, 0] := by
    unfold encR
    rw [show ([2, 0] : List UInt8).length = 2 from rfl, encU_small (by decide)]
    rfl
  rw [e2, List.cons_append] at h
  have := (List.cons_prefix_cons.1 h).1
  exact absurd this (by decide)
theorem live_scan : scanJ 0 (frameJ 0 [7] ++ [3, 0, 1]) = [[7]] := by
  have h := scanJ_frames [[7]] 0 [3, 0, 1] ⟨by decide, fun x hx => by rw [List.mem_singleton.1 hx]; decide⟩
  rw [show framesJ 0 [[7]] = frameJ 0 [7] from by rw [framesJ, framesJ, List.append_nil]; rfl] at h
  rw [h, show (0 + ([[7]] : List (List UInt8)).length : Nat) = 1 from rfl, scanJ_no live_no]
  rfl
theorem live_end : (framesJ 0 (scanJ 0 (frameJ 0 [7] ++ [3, 0, 1]))).length = (frameJ 0 [7]).length := by
  rw [live_scan, framesJ, framesJ, List.append_nil]; rfl
theorem St.boxBytes {w : World} {M : List HP} {F : List Fact} {b t : Nat} {cs : List Value} (l : List UInt8) (e : cs = bytesV l) (h : St w (Box b t cs :: M) F) : St w M (ArrF (some ⟨b, 0, none⟩) (bytesV l) :: F) := by subst e; exact h.boxArr
theorem Ctr.boolT {P : Program} {f : FuncId} {args : List Value} {M : List HP} {F : List Fact} {ι : Type} {b : Bool} {M' : ι → List HP} {F' : ι → List Fact} (e : b = true) (h : Ctr P f args M F ι (fun _ => .bool b) M' F') : Ctr P f args M F ι (fun _ => .bool true) M' F' := by subst e; exact h
theorem St.allB_one {w : World} {M : List HP} {F : List Fact} {p : Rc} (hp : ArrF p.2.oa (bytesV p.1) ∈ F) (h : St w M F) : St w M (AllB [p] :: F) := h.derive fun K hf q hq => by rw [List.mem_singleton.1 hq]; exact hf _ hp
theorem map_fst_len {ps : List Rc} {l : List (List UInt8)} (h : ps.map Prod.fst = l) : ps.length = l.length := by rw [← h, List.length_map]
theorem map_fst_le {ps : List Rc} {l : List (List UInt8)} {n : Nat} (h : ps.map Prod.fst = l) (hl : ∀ x, x ∈ l → x.length ≤ n) : ∀ p, p ∈ ps → p.1.length ≤ n := fun p hp => hl _ (by rw [← h]; exact List.mem_map_of_mem hp)
end Go.GL
