/- An append whose old slice stays readable; bytes that come in. No condition; over every program. -/
import Derived.Test.YtdlpaojkkekdlaaJrn
import Derived.Test.YtdlpaojkkekdlaaJoin
namespace Go.GL
set_option linter.unusedVariables false
open Go.ChangeShapes Go.WideShapes Go.ChangeAt Go.RowKit
theorem run_append2 {P : Program} {w : World} {t u ty e size bytes : Nat} (ht : tySlice P t e = true) (hu : noInt P u = true) (he : tyElem P e size bytes = true)
    {oa : Option Addr} {n cap : Nat} {xs : List Value} (hown : w.ownsRow 0 e size (.slice oa n cap) n xs) {y : Value} {m : Nat} {ys : List Value} (hy : Src P w size m y ys) (h63 : n + m ≤ 9223372036854775807) (hb : (n + m) * bytes ≤ 140737488355328) :
    ∃ oa' cap' w', (Builtin.append_ #[t, u] ty #[.slice oa n cap, y]).run P w = .ok (.slice oa' (n + m) cap') w' ∧ w'.ownsRow 0 e size (.slice oa' (n + m) cap') (n + m) (xs ++ ys) ∧ w.grownBy w' (oa.map (·.block)) ∧ (oa' = oa ∨ (oa' = some ⟨w.heap.size, 0, none⟩ ∧ ∀ k, k < w.heap.size → w'.heap[k]? = w.heap[k]?)) := by
  obtain ⟨i, z, hi, hsz, hby, hz, hzs⟩ := tyElem_info he
  have ht' := run_tySlice ht
  have hu' := noInt_is hu
  have hlen : (xs ++ ys).length = (n + m) * size := by rw [List.length_append, hown.1, hy.size, Nat.add_mul]
  by_cases hroom : n + m ≤ cap
  · rcases hown.2 with ⟨hv, h0⟩ | ⟨g, cap', cur, hv, _, hg, hnc, hcm, hcs, htake⟩
    · simp only [Value.slice.injEq] at hv
      obtain ⟨rfl, _, rfl⟩ := hv
      obtain rfl : m = 0 := by omega
      subst h0
      have hys : ys = [] := List.eq_nil_of_length_eq_zero (by simpa using hy.size)
      have hxs : xs = [] := List.eq_nil_of_length_eq_zero (by simpa using hown.1)
      subst hys; subst hxs
      refine ⟨none, 0, w, ?_, hown, ⟨rfl, rfl, rfl, Nat.le_refl _, fun _ _ _ => rfl⟩, .inl rfl⟩
      have hc := hy.cells
      have hl := hy.len
      rcases hu' with hu' | ⟨x, hu'⟩ <;> simp [Builtin.append_, run_underlying ht', run_underlying hu', sizeOf, typeInfo, hi, hsz, hl, hc]
    · simp only [Value.slice.injEq] at hv
      obtain ⟨rfl, _, rfl⟩ := hv
      have hfit : n * size + ys.length ≤ cur.size := by rw [hy.size, hcs, ← Nat.add_mul]; exact Nat.mul_le_mul_right _ hroom
      have hst := run_storeCells_at P g (n * size) e ys 0 cur w hg (by simpa using hfit) hy.one
      simp only [Nat.add_zero] at hst
      refine ⟨some ⟨g, 0, none⟩, cap, w.setRow g (cur.toList.take (n * size) ++ ys ++ cur.toList.drop (n * size + ys.length)).toArray, ?_, ⟨hlen, .inr ⟨g, cap, _, rfl, Nat.zero_le _, setRow_heap w g cur _ e _ hg, hroom, hcm, ?_, ?_⟩⟩, ⟨rfl, rfl, rfl, by simp, fun k _ hk => setRow_other w g k _ (fun e => hk (by simp [e]))⟩, .inl rfl⟩
      · have hc := hy.cells
        have hl := hy.len
        rcases hu' with hu' | ⟨x, hu'⟩ <;> simp [Builtin.append_, run_underlying ht', run_underlying hu', sizeOf, typeInfo, hi, hsz, hl, hc, hroom, Addr.add_lit, hst]
      · simp only [List.size_toArray, List.length_append, List.length_take, List.length_drop, Array.length_toList]
        omega
      · rw [htake, ← hlen]
        exact List.take_left
  · have hn : ¬ (n + m ≤ cap) := hroom
    have h63' : ¬ (9223372036854775807 < ((n : Int) + (m : Int))) := by omega
    have h48 := growslice_fits (need := n + m) (old := cap) (by omega) hb
    have h48' : ¬ (281474976710656 < Builtin.nextslicecap (n + m) cap * bytes) := by omega
    have hold : (Builtin.firstCells size n (.slice oa n cap)).run P w.drew = .ok xs.toArray w.drew := by
      rcases hown.2 with ⟨hv, h0⟩ | ⟨g, cap', cur, hv, _, hg, _⟩
      · simp only [Value.slice.injEq] at hv
        obtain ⟨rfl, _, rfl⟩ := hv
        subst h0
        have hxs : xs = [] := List.eq_nil_of_length_eq_zero (by simpa using hown.1)
        subst hxs
        simp [Builtin.firstCells]
      · simp only [Value.slice.injEq] at hv
        obtain ⟨rfl, _, rfl⟩ := hv
        exact run_firstCells_some (P := P) w.drew size n ⟨g, 0, none⟩ n cap xs hown.1 (fun j u hu => by
          have := hown.cells (g := g) rfl j u hu
          simpa using this)
    refine ⟨some ⟨w.heap.size, 0, none⟩, grownCap w (n + m) cap e, w.drew.alloc (.cells (xs.toArray ++ ys.toArray ++ Builtin.zeroCells z.cells (grownCap w (n + m) cap e - (n + m))) e), ?_, ⟨hlen, .inr ⟨w.heap.size, _, _, rfl, Nat.zero_le _, heap_alloc_new w.drew _, grownCap_ge w _ _ e, grownCap_le_maxLen w _ _ e (by simpa [maxLen] using h63), ?_, ?_⟩⟩, ⟨rfl, rfl, rfl, by simp, fun k hk _ => heap_alloc_old w.drew _ k hk⟩, .inr ⟨rfl, fun k hk => heap_alloc_old w.drew _ k hk⟩⟩
    · have hl := hy.len
      have hc' := hy.cells'
      rcases hu' with hu' | ⟨x, hu'⟩ <;> simp [Builtin.append_, run_underlying ht', run_underlying hu', sizeOf, typeInfo, zeroValue, hi, hz, hsz, hby, hl, hn, h63', h48', Question.forced, hold, hc', newRow, grownCap] <;> (congr 2; apply Array.ext'; simp [List.append_assoc])
    · have hge := grownCap_ge w (n + m) cap e
      have hl2 : xs.length + ys.length = (n + m) * size := by rw [← List.length_append]; exact hlen
      simp only [Array.size_append, List.size_toArray, size_zeroCells, hzs]
      rw [hl2, ← Nat.add_mul]
      congr 1
      omega
    · simp only [Array.toList_append, List.append_assoc]
      rw [← List.append_assoc, ← hlen]
      exact List.take_left
theorem ArrAt.pre {w : World} {K : List Nat} {oa : Option Addr} {xs ys : List Value} (h : ArrAt w K oa (xs ++ ys)) : ArrAt w K oa xs := by
  rcases h with h | ⟨b, off, e, h1, h2, h3⟩
  · exact .inl (List.append_eq_nil_iff.1 h).1
  · exact .inr ⟨b, off, e, h1, h2, fun j v hv => h3 j v (by rw [List.getElem?_append_left (List.getElem?_eq_some_iff.1 hv).1]; exact hv)⟩
section
variable {P : Program} {r : Option Nat} {N : Nat} {ops : Array Oper} {rest : List Oper} {Q : Exit → Act → World → Prop} {E : Env} {ds : List Deferred} {M : List HP} {F : List Fact}
variable {d : Nat} {ty : TypeId} {pos : String} {aft : Array Edge} {gd : Option (Nat × Bool)}
/-- an append onto a slice of one's own: both the new and the old can be read from then on -/
theorem GV.appendK {x y : Operand} {T U e size bytes n cap m j : Nat} {aty : Array TypeId} {oa : Option Addr} {xs ys : List Value} {vy : Value} (ht : tySlice P T e = true) (hu : noInt P U = true) (he : tyElem P e size bytes = true)
    (hx : evalO E x = some (.slice oa n cap)) (hj : M[j]? = some (OwnSl e size oa n cap xs)) (hy : evalO E y = some vy) (hs : ∀ w, St w M F → Src P w size m vy ys) (h63 : n + m ≤ 9223372036854775807) (hb : (n + m) * bytes ≤ 140737488355328) (hT : aty = #[T, U] := by rfl) :
    GV P E M F ⟨some d, .call ⟨.builtin .append, #[x, y], aty⟩, ty, pos, aft, gd⟩ {i : Option Addr × Nat // n + m ≤ i.2} (fun i => .slice i.1.1 (n + m) i.1.2) (fun _ => M.eraseIdx j) (fun i => ArrF i.1.1 (xs ++ ys) :: ArrF oa xs :: F) := ⟨rfl, fun ρ hρ w hw => by
  subst hT
  have hsrc := hs w hw
  have hf := hw.front hj
  obtain ⟨K, ⟨K1, K2, hK, h1, ho2⟩, hn, hfa⟩ := hf
  obtain ⟨oa', cap', w', hr, hown, hgr, hat⟩ := run_append2 (ty := ty) ht hu he h1.1 hsrc h63 hb
  have hst : St w' (OwnSl e size oa' (n + m) cap' (xs ++ ys) :: M.eraseIdx j) F := by
    refine (hw.front hj).turn hgr.os hgr.tape hgr.output hgr.size fun K hK => ⟨_, ⟨hown, rfl⟩, ?_, fun b hb => ?_, fun b hb hn => hgr.block b hb fun e => ?_⟩
    · cases oa' <;> simp
    · rcases hat with rfl | ⟨rfl, _⟩
      · exact .inl (by rw [hK.2]; exact hb)
      · simp at hb; exact .inr (by omega)
    · cases oa with
      | none => cases e
      | some a =>
        simp only [Option.map_some, Option.some.injEq] at e
        exact hn (by rw [hK.2]; simp [e])
  have hlen := hst.ownLen.2
  refine ⟨⟨(oa', cap'), hlen⟩, w', ?_, ?_⟩
  · simp [execOp, resolve, hρ _ _ hx, hρ _ _ hy, invoke, builtin, hr]
  · rcases hat with rfl | ⟨hnew, hold⟩
    · have h9 := hst.keepSl
      have h8 := h9.derive (ψ := ArrF oa' xs) (fun K hf => (hf _ (.head _)).pre)
      exact h8.facts (fun φ h => by
        rcases List.mem_cons.1 h with e1 | h
        · subst e1; exact .tail _ (.head _)
        rcases List.mem_cons.1 h with e1 | h
        · subst e1; exact .head _
        · exact .tail _ (.tail _ h))
    · have h7 : St w (M.eraseIdx j) (ArrF oa xs :: F) := (hw.front hj).keepSl
      have h6 : St w' (OwnSl e size oa' (n + m) cap' (xs ++ ys) :: M.eraseIdx j) (ArrF oa xs :: F) := h7.new hgr.os hgr.tape hgr.output hgr.size hold (K' := [w.heap.size]) ⟨hown, by rw [hnew]⟩ (by simp) (by simp)
      exact h6.keepSl⟩
theorem rd_box {b t i : Nat} {cs : List Value} (hi : M[i]? = some (Box b t cs)) : Rd M F (some ⟨b, 0, none⟩) cs := fun w hw => .inr ⟨b, 0, rfl, by simp, (Array.getElem?_eq_some_iff.1 (hw.heap hi)).1, fun j v hv => by rw [Nat.zero_add, cell_of_box (hw.heap hi)]; exact hv⟩
end
/-! ### Bytes that come in -/
section
variable {H : Type} {enc : TypeId × Value → H} {P : Program} {w : World}
theorem in_bytes {t e : TypeId} {fuel : Nat} {cs : List Value} {x : DataW H × List MemPlace} (ht : P.underlying t = some (.slice e)) (he : P.underlying e = some (.int .u8)) (hc : P.cellsOf e = 1) (h : DataW.trod enc P w 0 (fun _ => true) true fuel t cs = some x) :
    ∃ (oa : Option Addr) (ca : Nat) (l : List UInt8), cs = [.slice oa l.length ca] ∧ ArrAt w [] oa (bytesV l) ∧ l.length ≤ ca ∧ ca ≤ maxLen := by
  rcases open_ints ht he hc h with ⟨h1, _⟩ | ⟨a, len, cap, zs, h1, _, h3, h4, h5, _, h7, h8⟩
  · exact ⟨none, 0, [], h1, .inl rfl, Nat.le_refl _, Nat.zero_le _⟩
  · have hl : (zs.take len).length = len := by rw [List.length_take]; simp only [if_true] at h5; omega
    refine ⟨some a, cap, (zs.take len).map fun z => UInt8.ofNat z.toNat, by rw [List.length_map, hl]; exact h1, ?_, by rw [List.length_map]; omega, h4⟩
    by_cases h0 : zs.take len = []
    · exact .inl (by rw [h0]; rfl)
    · have hpos : 0 < zs.length := by
        cases zs with
        | nil => simp at h0
        | cons z zs => simp
      have hc0 := h7 0 hpos
      have hsp : a.spot = none := by have := World.cell?_spot hc0; simpa [Addr.add] using this
      obtain ⟨b, off, sp⟩ := a
      simp only at hsp
      subst hsp
      refine .inr ⟨b, off, rfl, by simp, ?_, fun j v hj => ?_⟩
      · unfold World.cell? at hc0
        simp only [Addr.add, if_true] at hc0
        cases hh : w.heap[b]? with
        | none => rw [hh] at hc0; cases hc0
        | some o => exact (Array.getElem?_eq_some_iff.1 hh).1
      · rw [bytesV, List.getElem?_map, List.getElem?_map] at hj
        cases hz : (zs.take len)[j]? with
        | none => rw [hz] at hj; cases hj
        | some z =>
          rw [hz] at hj
          simp only [Option.map_some, Option.some.injEq] at hj
          subst hj
          have hzm : z ∈ zs := List.mem_of_mem_take (List.mem_of_getElem? hz)
          rw [List.getElem?_take] at hz
          split at hz
          · have hjl := (List.getElem?_eq_some_iff.1 hz).1
            have := h7 j hjl
            rw [addr_add] at this
            rw [this]
            have hr := h8 z hzm
            simp only [Lit.wf, Bool.and_eq_true, decide_eq_true_eq] at hr
            simp [IntKind.min, IntKind.max, IntKind.signed, IntKind.bits] at hr
            rw [u8_ofNat (by omega)]
            simp only [List.getD, hz, Option.getD_some]
            congr 2
            omega
          · cases hz
theorem in_bytes1 {W : World} {r : Reach} {b0 t e : Nat} {v : Value} {d : DataW H} {ps : List MemPlace} (hs : isSl P t e = true) (he : tyInt P e .u8 = true) (hc : Nat.beq (P.cellsOf e) 1 = true) (hval : Value.okWide P W r b0 t v) (h : DataW.Trod enc P W 0 (fun _ => true) true t v d ps) :
    ∃ (oa : Option Addr) (ca : Nat) (l : List UInt8), v = .slice oa l.length ca ∧ ArrAt W [] oa (bytesV l) ∧ l.length ≤ ca ∧ ca ≤ maxLen := by
  obtain ⟨fuel, hf⟩ := h
  obtain ⟨oa, ca, xs, e1, h2⟩ := in_bytes (isSl_is hs) (tyInt_is he) (Nat.eq_of_beq_eq_true hc) hf
  refine ⟨oa, ca, xs, ?_, h2⟩
  cases v <;> simp [Value.cells] at e1 ⊢
  all_goals first | exact e1 | (exfalso; unfold Value.okWide at hval; rw [isSl_is hs] at hval; simp [Cell.okWide, Cell.ok, isSl_is hs] at hval)
end
end Go.GL
