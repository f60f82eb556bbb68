/- Laws of frames, and cuts of lists of records. No program. -/
import Derived.Test.YtdlpaojkkekdlaaLvs
namespace Go.GL
set_option linter.unusedVariables false
theorem frameJ_has (i : Int) (x : List UInt8) : x.length ≤ (frameJ i x).length := by
  unfold frameJ coreJ encR
  simp only [List.length_append]; omega
theorem framesJ_mem : ∀ (xs : List (List UInt8)) (i : Nat) (x : List UInt8), x ∈ xs → x.length ≤ (framesJ i xs).length
  | [], _, _, h => absurd h (by simp)
  | y :: ys, i, x, h => by
    rw [framesJ, List.length_append]
    rcases List.mem_cons.1 h with e | h
    · subst e; have := frameJ_has (i : Int) x; omega
    · have := framesJ_mem ys (i + 1) x h; omega
theorem scanJ_mem {b x : List UInt8} {i : Nat} (h : x ∈ scanJ i b) : x.length ≤ b.length := by
  obtain ⟨r, hr⟩ := scanJ_split b.length b i (Nat.le_refl _)
  have := framesJ_mem _ i x h
  have h2 := congrArg List.length hr
  rw [List.length_append] at h2; omega
theorem scanJ_len {b : List UInt8} {i : Nat} : (scanJ i b).length ≤ b.length := by
  obtain ⟨r, hr⟩ := scanJ_split b.length b i (Nat.le_refl _)
  have := framesJ_len (scanJ i b) i
  have h2 := congrArg List.length hr
  rw [List.length_append] at h2; omega
theorem framesJ_bound {m : Nat} : ∀ (xs : List (List UInt8)) (i : Nat), i + xs.length ≤ 9223372036854775807 → (∀ x, x ∈ xs → x.length ≤ m) → m ≤ 4611686018427387000 → (framesJ i xs).length ≤ (m + 40) * xs.length
  | [], _, _, _, _ => by simp [framesJ]
  | x :: xs, i, h, hx, hm => by
    rw [List.length_cons] at h
    have h1 := framesJ_bound xs (i + 1) (by omega) (fun y hy => hx y (.tail _ hy)) hm
    have h2 := (frameJ_len (i := (i : Int)) (x := x) (by omega) (by omega) (Nat.le_trans (hx x (.head _)) hm)).1
    have h3 := hx x (.head _)
    rw [framesJ, List.length_append, List.length_cons, Nat.mul_succ]
    omega
theorem scan_end {xs : List (List UInt8)} {rest : List UInt8} (h : FitJ 0 xs) : (framesJ 0 xs).length ≤ (framesJ 0 (scanJ 0 (framesJ 0 xs ++ rest))).length := by
  rw [scanJ_frames xs 0 rest h, framesJ_append, List.length_append]; omega
theorem framesJ_next {xs : List (List UInt8)} {k : Nat} (h : k < xs.length) : framesJ 0 (xs.take (k + 1)) = framesJ 0 (xs.take k) ++ frameJ (k : Int) xs[k] := by
  rw [List.take_succ_eq_append_getElem h, framesJ_snoc, List.length_take, Nat.min_eq_left (by omega), Nat.zero_add]
theorem St.cutL {w : World} {M : List HP} {F : List Fact} {oa : Option Addr} {cap : Nat} {ps : List Rc} (k : Nat) (hc : ps.length ≤ cap) (hF : ArrF oa (listV ps) ∈ F) (hA : AllB ps ∈ F) (h : St w M F) : St w M (ArrF (cutA oa 0 cap 1) (listV (ps.take k)) :: AllB (ps.take k) :: F) := by
  have h1 : St w M (AllB (ps.take k) :: F) := h.derive fun K hf p hp => hf _ hA p (List.mem_of_mem_take hp)
  refine h1.derive fun K hf => ?_
  have h9 := ArrAt.cut (size := 1) (cap := cap) (n := ps.length) (hf _ (.tail _ hF)) 0 (min k ps.length) (by rw [listV_length, Nat.mul_one]) (Nat.min_le_right _ _) hc
  simp only [Nat.mul_one, List.drop_zero] at h9
  show ArrAt _ _ _ _
  have e : listV (ps.take k) = (listV ps).take (min k ps.length) := by
    rw [show listV (ps.take k) = (listV ps).take k from by simp [listV]]
    rcases Nat.le_total k ps.length with h1 | h1
    · rw [Nat.min_eq_left h1]
    · rw [Nat.min_eq_right h1, List.take_of_length_le (by rw [listV_length]; omega), List.take_of_length_le (by rw [listV_length]; omega)]
  rw [e]
  exact h9
section
variable {P : Program} {r : Option Nat} {N : Nat} {ops : Array Oper} {rest : List Oper} {Q : Exit → Act → World → Prop} {E : Env} {ds : List Deferred} {M : List HP} {F : List Fact}
variable {d : Nat} {ty : TypeId} {pos : String} {aft : Array Edge} {gd : Option (Nat × Bool)}
theorem RL.sliceToL {T e : TypeId} {x o : Operand} {oa : Option Addr} {cap k : Nat} {v : Int} {ik : IntKind} {ps : List Rc} (hg : wantedG ops E gd = some true) (ht : tySlice P T e = true) (hz : tySize P e 1 = true) (hx : evalO E x = some (.slice oa ps.length cap))
    (ho : evalO E o = some (.int ik v)) (hv : v = ((ps.take k).length : Int)) (hc : ps.length ≤ cap) (hF : ArrF oa (listV ps) ∈ F) (hA : AllB ps ∈ F) (hN : Nat.ble (d + 1) N = true) (kk : RL P r N ops rest Q ((d, .slice (cutA oa 0 cap 1) (ps.take k).length cap) :: E) ds M (ArrF (cutA oa 0 cap 1) (listV (ps.take k)) :: AllB (ps.take k) :: F)) : RL P r N ops (⟨some d, .slice T x none (some o) none, ty, pos, aft, gd⟩ :: rest) Q E ds M F := by
  subst hv
  refine RL.weak (fun w hw => hw.cutL k hc hF hA) ?_
  exact RL.sliceToU hg ht hz hx ho (by rw [List.length_take]; omega) hN kk
end
end Go.GL
