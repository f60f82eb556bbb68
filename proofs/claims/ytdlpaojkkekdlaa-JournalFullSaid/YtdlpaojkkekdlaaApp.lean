/- The rule of the walk for append onto a slice of the call's own, and results that lie in memory. No condition; over every program. -/
import Derived.Test.YtdlpaojkkekdlaaPv
import Derived.Maps.AppendAt
import Derived.Lib.AppendStr
namespace Go.GL
/-- what is appended: m elements, the cells ys -/
structure Src (P : Program) (w : World) (size m : Nat) (y : Value) (ys : List Value) : Prop where
  len : (Builtin.lenOf y).run P w = .ok m w
  len' : (Builtin.lenOf y).run P w.drew = .ok m w.drew
  cells : (Builtin.firstCells size m y).run P w = .ok ys.toArray w
  cells' : (Builtin.firstCells size m y).run P w.drew = .ok ys.toArray w.drew
  size : ys.length = m * size
  one : ∀ u, u ∈ ys → u.oneCell' = true
def tyElem (P : Program) (e size bytes : Nat) : Bool := match P.info? e with
  | some i => Nat.beq i.size size && Nat.beq i.bytes bytes && (match i.zero with | some z => Nat.beq z.cells.size size | none => false)
  | none => false
theorem tyElem_info {P : Program} {e size bytes : Nat} (h : tyElem P e size bytes = true) : ∃ i z, P.info? e = some i ∧ i.size = size ∧ i.bytes = bytes ∧ i.zero = some z ∧ z.cells.size = size := by
  unfold tyElem at h
  cases hi : P.info? e with
  | none => rw [hi] at h; cases h
  | some i =>
    rw [hi] at h
    simp only [Bool.and_eq_true] at h
    cases hz : i.zero with
    | none => rw [hz] at h; simp at h
    | some z =>
      rw [hz] at h
      exact ⟨i, z, rfl, Nat.eq_of_beq_eq_true h.1.1, Nat.eq_of_beq_eq_true h.1.2, hz, Nat.eq_of_beq_eq_true h.2⟩
def noInt (P : Program) (t : TypeId) : Bool := match P.underlying t with | some .string => true | some (.slice _) => true | _ => false
theorem noInt_is {P : Program} {t : TypeId} (h : noInt P t = true) : P.underlying t = some .string ∨ ∃ x, P.underlying t = some (.slice x) := by
  unfold noInt at h
  split at h
  · rename_i he; exact .inl he
  · rename_i x he; exact .inr ⟨x, he⟩
  · cases h
theorem run_append {P : Program} {w : World} {t u ty e size bytes : Nat} (ht : tySlice P t e = true) (hu : noInt P u = true) (he : tyElem P e size bytes = true)
    {oa : Option Addr} {n cap : Nat} {xs : List Value} (hown : w.ownsRow 0 e size (.slice oa n cap) n xs) {y : Value} {m : Nat} {ys : List Value} (hy : Src P w size m y ys) (h63 : n + m ≤ 9223372036854775807) (hb : (n + m) * bytes ≤ 140737488355328) :
    ∃ oa' cap' w', (Builtin.append_ #[t, u] ty #[.slice oa n cap, y]).run P w = .ok (.slice oa' (n + m) cap') w' ∧ w'.ownsRow 0 e size (.slice oa' (n + m) cap') (n + m) (xs ++ ys) ∧ w.grownBy w' (oa.map (·.block)) ∧ (oa' = oa ∨ oa' = some ⟨w.heap.size, 0, none⟩) := by
  obtain ⟨i, z, hi, hsz, hby, hz, hzs⟩ := tyElem_info he
  have ht' := run_tySlice ht
  have hu' := noInt_is hu
  have hlen : (xs ++ ys).length = (n + m) * size := by rw [List.length_append, hown.1, hy.size, Nat.add_mul]
  by_cases hroom : n + m ≤ cap
  · rcases hown.2 with ⟨hv, h0⟩ | ⟨g, cap', cur, hv, _, hg, hnc, hcm, hcs, htake⟩
    · simp only [Value.slice.injEq] at hv
      obtain ⟨rfl, _, rfl⟩ := hv
      obtain rfl : m = 0 := by omega
      subst h0
      have hys : ys = [] := List.eq_nil_of_length_eq_zero (by simpa using hy.size)
      have hxs : xs = [] := List.eq_nil_of_length_eq_zero (by simpa using hown.1)
      subst hys; subst hxs
      refine ⟨none, 0, w, ?_, hown, ⟨rfl, rfl, rfl, Nat.le_refl _, fun _ _ _ => rfl⟩, .inl rfl⟩
      have hc := hy.cells
      have hl := hy.len
      rcases hu' with hu' | ⟨x, hu'⟩ <;> simp [Builtin.append_, run_underlying ht', run_underlying hu', sizeOf, typeInfo, hi, hsz, hl, hc]
    · simp only [Value.slice.injEq] at hv
      obtain ⟨rfl, _, rfl⟩ := hv
      have hfit : n * size + ys.length ≤ cur.size := by rw [hy.size, hcs, ← Nat.add_mul]; exact Nat.mul_le_mul_right _ hroom
      have hst := run_storeCells_at P g (n * size) e ys 0 cur w hg (by simpa using hfit) hy.one
      simp only [Nat.add_zero] at hst
      refine ⟨some ⟨g, 0, none⟩, cap, w.setRow g (cur.toList.take (n * size) ++ ys ++ cur.toList.drop (n * size + ys.length)).toArray, ?_, ⟨hlen, .inr ⟨g, cap, _, rfl, Nat.zero_le _, setRow_heap w g cur _ e _ hg, hroom, hcm, ?_, ?_⟩⟩, ⟨rfl, rfl, rfl, by simp, fun k _ hk => setRow_other w g k _ (fun e => hk (by simp [e]))⟩, .inl rfl⟩
      · have hc := hy.cells
        have hl := hy.len
        rcases hu' with hu' | ⟨x, hu'⟩ <;> simp [Builtin.append_, run_underlying ht', run_underlying hu', sizeOf, typeInfo, hi, hsz, hl, hc, hroom, Addr.add_lit, hst]
      · simp only [List.size_toArray, List.length_append, List.length_take, List.length_drop, Array.length_toList]
        omega
      · rw [htake, ← hlen]
        exact List.take_left
  · have hn : ¬ (n + m ≤ cap) := hroom
    have h63' : ¬ (9223372036854775807 < ((n : Int) + (m : Int))) := by omega
    have h48 := growslice_fits (need := n + m) (old := cap) (by omega) hb
    have h48' : ¬ (281474976710656 < Builtin.nextslicecap (n + m) cap * bytes) := by omega
    have hold : (Builtin.firstCells size n (.slice oa n cap)).run P w.drew = .ok xs.toArray w.drew := by
      rcases hown.2 with ⟨hv, h0⟩ | ⟨g, cap', cur, hv, _, hg, _⟩
      · simp only [Value.slice.injEq] at hv
        obtain ⟨rfl, _, rfl⟩ := hv
        subst h0
        have hxs : xs = [] := List.eq_nil_of_length_eq_zero (by simpa using hown.1)
        subst hxs
        simp [Builtin.firstCells]
      · simp only [Value.slice.injEq] at hv
        obtain ⟨rfl, _, rfl⟩ := hv
        exact run_firstCells_some (P := P) w.drew size n ⟨g, 0, none⟩ n cap xs hown.1 (fun j u hu => by
          have := hown.cells (g := g) rfl j u hu
          simpa using this)
    refine ⟨some ⟨w.heap.size, 0, none⟩, grownCap w (n + m) cap e, w.drew.alloc (.cells (xs.toArray ++ ys.toArray ++ Builtin.zeroCells z.cells (grownCap w (n + m) cap e - (n + m))) e), ?_, ⟨hlen, .inr ⟨w.heap.size, _, _, rfl, Nat.zero_le _, heap_alloc_new w.drew _, grownCap_ge w _ _ e, grownCap_le_maxLen w _ _ e (by simpa [maxLen] using h63), ?_, ?_⟩⟩, ⟨rfl, rfl, rfl, by simp, fun k hk _ => heap_alloc_old w.drew _ k hk⟩, .inr rfl⟩
    · have hl := hy.len
      have hc' := hy.cells'
      rcases hu' with hu' | ⟨x, hu'⟩ <;> simp [Builtin.append_, run_underlying ht', run_underlying hu', sizeOf, typeInfo, zeroValue, hi, hz, hsz, hby, hl, hn, h63', h48', Question.forced, hold, hc', newRow, grownCap] <;> (congr 2; apply Array.ext'; simp [List.append_assoc])
    · have hge := grownCap_ge w (n + m) cap e
      have hl2 : xs.length + ys.length = (n + m) * size := by rw [← List.length_append]; exact hlen
      simp only [Array.size_append, List.size_toArray, size_zeroCells, hzs]
      rw [hl2, ← Nat.add_mul]
      congr 1
      omega
    · simp only [Array.toList_append, List.append_assoc]
      rw [← List.append_assoc, ← hlen]
      exact List.take_left
theorem Src.slice {P : Program} {w : World} {size m c : Nat} {oa : Option Addr} {ys : List Value} (h : ArrAt w [] oa ys) (hs : ys.length = m * size) (h1 : ys.all Value.oneCell' = true) : Src P w size m (.slice oa m c) ys := by
  have key : ∀ w' : World, ArrAt w' [] oa ys → (Builtin.firstCells size m (.slice oa m c)).run P w' = .ok ys.toArray w' := by
    intro w' h
    cases oa with
    | none =>
      rcases h with rfl | ⟨b, off, e, _⟩
      · simp [Builtin.firstCells]
      · cases e
    | some a =>
      refine run_firstCells_some w' size m a m c ys hs fun j v hv => ?_
      rcases h with rfl | ⟨b, off, e, hc⟩
      · simp at hv
      · cases e; rw [addr_add]; exact hc.2.2 j v hv
  exact ⟨rfl, rfl, key w h, key w.drew h, hs, fun u hu => List.all_eq_true.1 h1 u hu⟩
def bytesV (l : List UInt8) : List Value := l.map fun b => Value.int .u8 b.toNat
theorem bytesV_length (l : List UInt8) : (bytesV l).length = l.length := by simp [bytesV]
theorem Src.str {P : Program} {w : World} (l : List UInt8) : Src P w 1 l.length (S l) (bytesV l) := by
  have key : ∀ w' : World, (Builtin.firstCells 1 l.length (S l)).run P w' = .ok (bytesV l).toArray w' := by
    intro w'
    have := Lib.run_firstCells_string (P := P) w' 1 ⟨l.toArray⟩
    rw [S_size] at this
    rw [this]
    simp [Lib.strCells, bytesV]
  have hl : ∀ w' : World, (Builtin.lenOf (S l)).run P w' = .ok l.length w' := fun w' => by
    show Result.ok (⟨l.toArray⟩ : ByteArray).size w' = _
    rw [S_size]
  exact ⟨hl _, hl _, key w, key w.drew, by simp [bytesV], fun u hu => by
    simp only [bytesV, List.mem_map] at hu
    obtain ⟨b, _, rfl⟩ := hu
    rfl⟩

/-! ### The rule -/
/-- an operation whose value and world hang on the world, as it runs -/
def GV (P : Program) (E : Env) (M : List HP) (F : List Fact) (o : Oper) (ι : Type) (val : ι → Value) (M' : ι → List HP) (F' : ι → List Fact) : Prop :=
  isDefer o.op = false ∧ ∀ ρ : Operand → Value, (∀ x u, evalO E x = some u → ρ x = u) → ∀ w, St w M F → ∃ i w', (execOp ρ o).run P w = .ok (.value (val i)) w' ∧ St w' (M' i) (F' i)
section
variable {P : Program} {r : Option Nat} {N : Nat} {ops : Array Oper} {rest : List Oper} {Q : Exit → Act → World → Prop} {E : Env} {ds : List Deferred} {M : List HP} {F : List Fact}
variable {d : Nat} {ty : TypeId} {pos : String} {aft : Array Edge} {gd : Option (Nat × Bool)}
theorem RL.ofGV {op : Op} {ι : Type} {val : ι → Value} {M' : ι → List HP} {F' : ι → List Fact} (hg : wantedG ops E gd = some true) (hN : Nat.ble (d + 1) N = true) (h : GV P E M F ⟨some d, op, ty, pos, aft, gd⟩ ι val M' F')
    (k : ∀ i, RL P r N ops rest Q ((d, val i) :: E) ds (M' i) (F' i)) : RL P r N ops (⟨some d, op, ty, pos, aft, gd⟩ :: rest) Q E ds M F := RL.gen h.1 hg hN h.2 k
theorem EV.ofGV {o : Oper} {ι : Type} {val : ι → Value} {M' : ι → List HP} {F' : ι → List Fact} (h : GV P E M F o ι val M' F') : EV P r Q E M F o ι val M' F' := EV.of_gen h.1 h.2
theorem GV.append {x y : Operand} {T U e size bytes n cap m j : Nat} {aty : Array TypeId} {oa : Option Addr} {xs ys : List Value} {vy : Value} (ht : tySlice P T e = true) (hu : noInt P U = true) (he : tyElem P e size bytes = true)
    (hx : evalO E x = some (.slice oa n cap)) (hj : M[j]? = some (OwnSl e size oa n cap xs)) (hy : evalO E y = some vy) (hs : ∀ w, St w M F → Src P w size m vy ys) (h63 : n + m ≤ 9223372036854775807) (hb : (n + m) * bytes ≤ 140737488355328) (hT : aty = #[T, U] := by rfl) :
    GV P E M F ⟨some d, .call ⟨.builtin .append, #[x, y], aty⟩, ty, pos, aft, gd⟩ (Option Addr × Nat) (fun i => .slice i.1 (n + m) i.2) (fun i => M.set j (OwnSl e size i.1 (n + m) i.2 (xs ++ ys))) (fun _ => F) := ⟨rfl, fun ρ hρ w hw => by
  subst hT
  have hsrc := hs w hw
  have hf := hw.front hj
  obtain ⟨K, ⟨K1, K2, _, h1, _⟩, _⟩ := hf
  obtain ⟨oa', cap', w', hr, hown, hgr, hat⟩ := run_append (ty := ty) ht hu he h1.1 hsrc h63 hb
  refine ⟨(oa', cap'), w', ?_, ?_⟩
  · simp [execOp, resolve, hρ _ _ hx, hρ _ _ hy, invoke, builtin, hr]
  · refine St.back hj ((hw.front hj).turn hgr.os hgr.tape hgr.output hgr.size fun K hK => ⟨_, ⟨hown, rfl⟩, ?_, fun b hb => ?_, fun b hb hn => hgr.block b hb fun e => ?_⟩)
    · cases oa' <;> simp
    · rcases hat with rfl | rfl
      · exact .inl (by rw [hK.2]; exact hb)
      · simp at hb; exact .inr (by omega)
    · cases oa with
      | none => cases e
      | some a =>
        simp only [Option.map_some, Option.some.injEq] at e
        exact hn (by rw [hK.2]; simp [e])⟩
/-- the source is an owned slice, a box's block, or lasts -/
theorem src_box {b t : Nat} {cs : List Value} {size m c i : Nat} (hi : M[i]? = some (Box b t cs)) (hs : cs.length = m * size) (h1 : cs.all Value.oneCell' = true) : ∀ w, St w M F → Src P w size m (.slice (some ⟨b, 0, none⟩) m c) cs := fun w hw =>
  Src.slice (.inr ⟨b, 0, rfl, by simp, (Array.getElem?_eq_some_iff.1 (hw.heap hi)).1, fun j v hv => by rw [Nat.zero_add, cell_of_box (hw.heap hi)]; exact hv⟩) hs h1
theorem ArrAt.clear {w : World} {K : List Nat} {oa : Option Addr} {xs : List Value} (h : ArrAt w K oa xs) : ArrAt w [] oa xs := by
  rcases h with h | ⟨b, off, e, hc⟩
  · exact .inl h
  · exact .inr ⟨b, off, e, by simp, hc.2⟩
theorem src_fact {oa : Option Addr} {xs : List Value} {size m c : Nat} (hF : ArrF oa xs ∈ F) (hs : xs.length = m * size) (h1 : xs.all Value.oneCell' = true) : ∀ w, St w M F → Src P w size m (.slice oa m c) xs := fun w hw => by
  obtain ⟨K, hK⟩ := hw.fact hF
  exact Src.slice (ArrAt.clear hK) hs h1
theorem src_own {oa : Option Addr} {e size n cap i : Nat} {xs : List Value} (hi : M[i]? = some (OwnSl e size oa n cap xs)) (h1 : xs.all Value.oneCell' = true) : ∀ w, St w M F → Src P w size n (.slice oa n cap) xs := fun w hw => by
  obtain ⟨K, ⟨K1, K2, _, h, _⟩, _⟩ := hw.front hi
  exact Src.slice (OwnSl.cells h) h.1.1 h1
theorem src_str (l : List UInt8) : ∀ w, St w M F → Src P w 1 l.length (S l) (bytesV l) := fun _ _ => Src.str l

/-! ### Results that lie in memory -/
theorem results_cell_box {w : World} {fn : Func} {t T b bt : Nat} {cs : List Value} {tmps : Array Value} (hr : fn.results = #[.cell t T]) (ht : tmps[t]? = some (.pointer (some ⟨b, 0, none⟩))) (hb : w.heap[b]? = some (.cells cs.toArray bt (0, 0))) (hT : tyAgg P T cs.length = true) :
    (results fn tmps).run P w = .ok (.agg cs.toArray) w := by
  have hl := run_loadVar_agg (P := P) (w := w) hT (a := ⟨b, 0, none⟩) (vs := cs) rfl fun j v hv => by rw [addr_add, cell_of_box hb]; simpa using hv
  simp [results, hr, ht, asAddr, hl]
theorem NX.retC {fn : Func} {t T b bt j : Nat} {cs : List Value} {ι : Type} {val : ι → Value} {M' : ι → List HP} {F' : ι → List Fact} (i : ι) (hr : fn.results = #[.cell t T]) (ht : look E t = some (.pointer (some ⟨b, 0, none⟩))) (hj : M[j]? = some (Box b bt cs)) (hT : tyAgg P T cs.length = true) (hv : .agg cs.toArray = val i) (hS : ∀ w, St w M F → St w (M' i) (F' i)) :
    NX N .ret (bodyPost P fn (Post val M' F')) E [] M F := fun a w ha hw =>
  ⟨ha.defers, _, results_cell_box hr (ha.get t _ ht) (hw.heap hj) hT, i, by rw [hv], hS w hw⟩
/-- the same, what the caller gets hanging on the world -/
theorem NX.retCx {fn : Func} {t T b bt j : Nat} {cs : List Value} {ι : Type} {val : ι → Value} {M' : ι → List HP} {F' : ι → List Fact} (hr : fn.results = #[.cell t T]) (ht : look E t = some (.pointer (some ⟨b, 0, none⟩))) (hj : M[j]? = some (Box b bt cs)) (hT : tyAgg P T cs.length = true) (hS : ∀ w, St w M F → ∃ i, .agg cs.toArray = val i ∧ St w (M' i) (F' i)) :
    NX N .ret (bodyPost P fn (Post val M' F')) E [] M F := fun a w ha hw => by
  obtain ⟨i, hv, hs⟩ := hS w hw
  exact ⟨ha.defers, _, results_cell_box hr (ha.get t _ ht) (hw.heap hj) hT, i, by rw [hv], hs⟩
/-- a struct in memory and a second result -/
theorem NX.retC1 {fn : Func} {t T b bt j u : Nat} {cs : List Value} {v' : Value} {ι : Type} {val : ι → Value} {M' : ι → List HP} {F' : ι → List Fact} (hr : fn.results = #[.cell t T, .tmp u]) (ht : look E t = some (.pointer (some ⟨b, 0, none⟩))) (hu : look E u = some v') (hj : M[j]? = some (Box b bt cs)) (hT : tyAgg P T cs.length = true) (hS : ∀ w, St w M F → ∃ i, .tuple #[.agg cs.toArray, v'] = val i ∧ St w (M' i) (F' i)) :
    NX N .ret (bodyPost P fn (Post val M' F')) E [] M F := fun a w ha hw => by
  obtain ⟨i, hv, hs⟩ := hS w hw
  refine ⟨ha.defers, .tuple #[.agg cs.toArray, v'], ?_, i, by rw [hv], hs⟩
  have hl := run_loadVar_agg (P := P) (w := w) hT (a := ⟨b, 0, none⟩) (vs := cs) rfl fun j v hv => by rw [addr_add, cell_of_box (hw.heap hj)]; simpa using hv
  simp [results, hr, ha.get t _ ht, ha.get u _ hu, asAddr, hl]
theorem NX.retC2 {fn : Func} {t T b bt j u u' : Nat} {cs : List Value} {v' v'' : Value} {ι : Type} {val : ι → Value} {M' : ι → List HP} {F' : ι → List Fact} (hr : fn.results = #[.cell t T, .tmp u, .tmp u']) (ht : look E t = some (.pointer (some ⟨b, 0, none⟩))) (hu : look E u = some v') (hu' : look E u' = some v'') (hj : M[j]? = some (Box b bt cs)) (hT : tyAgg P T cs.length = true) (hS : ∀ w, St w M F → ∃ i, .tuple #[.agg cs.toArray, v', v''] = val i ∧ St w (M' i) (F' i)) :
    NX N .ret (bodyPost P fn (Post val M' F')) E [] M F := fun a w ha hw => by
  obtain ⟨i, hv, hs⟩ := hS w hw
  refine ⟨ha.defers, .tuple #[.agg cs.toArray, v', v''], ?_, i, by rw [hv], hs⟩
  have hl := run_loadVar_agg (P := P) (w := w) hT (a := ⟨b, 0, none⟩) (vs := cs) rfl fun j v hv => by rw [addr_add, cell_of_box (hw.heap hj)]; simpa using hv
  simp [results, hr, ha.get t _ ht, ha.get u _ hu, ha.get u' _ hu', asAddr, hl]
theorem NX.ret1x {fn : Func} {t : Nat} {v : Value} {ι : Type} {val : ι → Value} {M' : ι → List HP} {F' : ι → List Fact} (hr : fn.results = #[.tmp t]) (ht : look E t = some v) (hS : ∀ w, St w M F → ∃ i, v = val i ∧ St w (M' i) (F' i)) :
    NX N .ret (bodyPost P fn (Post val M' F')) E [] M F := fun a w ha hw => by
  obtain ⟨i, hv, hs⟩ := hS w hw
  refine ⟨ha.defers, v, ?_, i, by rw [hv], hs⟩
  rw [results_tmp hr]
  simp [ha.get t v ht]
theorem NX.ret2x {fn : Func} {t u : Nat} {v v' : Value} {ι : Type} {val : ι → Value} {M' : ι → List HP} {F' : ι → List Fact} (hr : fn.results = #[.tmp t, .tmp u]) (ht : look E t = some v) (hu : look E u = some v') (hS : ∀ w, St w M F → ∃ i, .tuple #[v, v'] = val i ∧ St w (M' i) (F' i)) :
    NX N .ret (bodyPost P fn (Post val M' F')) E [] M F := fun a w ha hw => by
  obtain ⟨i, hv, hs⟩ := hS w hw
  refine ⟨ha.defers, .tuple #[v, v'], ?_, i, by rw [hv], hs⟩
  rw [results_tmp2 hr]
  simp [ha.get t v ht, ha.get u v' hu]
end
end Go.GL
