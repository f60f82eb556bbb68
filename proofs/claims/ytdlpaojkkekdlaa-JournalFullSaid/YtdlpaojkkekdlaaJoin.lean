/- From a contract to a row's contract: what comes in as facts, what goes out as the row asks. No condition; over every program. -/
import Derived.Test.YtdlpaojkkekdlaaBld
import Derived.ProofKit
import Derived.OpenShut
import Derived.CallsIn
import Derived.DataReads
import Derived.ChangeArms
import Derived.Carry
namespace Go.GL
open Go.ChangeShapes Go.WideShapes Go.ChangeAt Go.RowKit Go.GL.Tree
/-- what was there stands as it stood -/
def OldF (W : World) : Fact := ⟨fun w K => Below W.heap.size W w ∧ ∀ b, b ∈ K → W.heap.size ≤ b, fun {w K w' K'} ⟨h1, h2⟩ e => by
  refine ⟨⟨e.os.trans h1.os, e.tape.trans h1.tape, e.output.trans h1.output, Nat.le_trans h1.size e.size, fun k hk => ?_⟩, fun b hb => ?_⟩
  · exact (e.same k (Nat.lt_of_lt_of_le hk h1.size) fun hkK => by have := h2 k hkK; omega).trans (h1.block k hk)
  · rcases e.keys b hb with h | h
    · exact h2 b h
    · exact Nat.le_trans h1.size h⟩
theorem OldF.start (W : World) : (OldF W).p W [] := ⟨Below.refl _ _, fun b hb => by cases hb⟩
theorem law_run {P : Program} {f : FuncId} {args : List Value} {W : World} {F : List Fact} {v : Value} (h : Ctr P f args [] (OldF W :: F) Unit (fun _ => v) (fun _ => []) (fun _ => OldF W :: F)) (hF : FAll F W []) :
    Calls P f args.toArray W fun e W' => e = .returned v ∧ Below W.heap.size W W' := by
  have h0 : St W [] (OldF W :: F) := ⟨[], rfl, List.nodup_nil, fun φ hφ => by
    rcases List.mem_cons.1 hφ with e | e
    · subst e; exact OldF.start W
    · exact hF φ e⟩
  have h1 : CallsIn Fence.wide 0 P f args.toArray W (Post (fun _ => v) (fun _ => []) (fun _ : Unit => OldF W :: F)) := h W h0
  refine (callsIn_wide.1 h1).mono ?_
  rintro e w' ⟨_, he, K, ho, _, hf⟩
  have hK : K = [] := ho
  subst hK
  exact ⟨he, (hf _ (.head _)).1⟩
section
variable {H : Type} {enc : TypeId × Value → H} {P : Program} {W W' : World}
theorem trodAll_below (hl : laidOutB P = true) : ∀ {ts : List TypeId} {vs : List Value} {ds : List (DataW H)} {ps : List MemPlace}, (ts.all fun t => P.readableRec t && Nat.ble (t + 1) P.types.size) = true →
    DataW.TrodAll enc P W 0 (fun _ => true) true ts vs ds ps → Below W.heap.size W W' → (∀ x, x ∈ ps → x.block < W.heap.size) → DataW.TrodAll enc P W' 0 (fun b => decide (b < W.heap.size)) true ts vs ds ps
  | [], [], [], _, _, h, _, _ => h
  | [], _ :: _, _, _, _, h, _, _ => h.elim
  | [], [], _ :: _, _, _, h, _, _ => h.elim
  | _ :: _, [], _, _, _, h, _, _ => h.elim
  | _ :: _, _ :: _, [], _, _, h, _, _ => h.elim
  | t :: ts, v :: vs, d :: ds, ps, ht, ⟨p, q, h1, h2, e⟩, hb, hlt => by
    simp only [List.all_cons, Bool.and_eq_true] at ht
    exact ⟨p, q, Below.trod hl ht.1.1 (Nat.le_of_ble_eq_true ht.1.2) h1 hb fun x hx => hlt x (by rw [e]; simp [hx]), trodAll_below hl ht.2 h2 hb fun x hx => hlt x (by rw [e]; simp [hx]), e⟩
/-- the row's promise: true, and the arguments as they read -/
theorem law_post {f : Func} {s : ChangeSpec} {args : Array Value} {ds gs : List (DataW H)} {before : List MemPlace} {tb : TypeId} (hl : laidOutB P = true) (hts : (f.params.toList.all fun t => P.readableRec t && Nat.ble (t + 1) P.types.size) = true)
    (hv : s.vars = []) (hres : f.resultTypes = #[tb]) (htb : P.underlying tb = some .bool) (hfn : s.fn H ds = { results := [.lit (.bool true)], args := ds }) (hW : DataW.Whole enc P f.params.toList s.vars false W args.toList ds gs before) (hb : Below W.heap.size W W') :
    s.post enc P f false true false false W args (.bool true) W' := by
  have hlt : ∀ x, x ∈ before → x.block < W.heap.size := fun x hx => by simpa using hW.lt x hx
  have hW' := hW
  obtain ⟨p, q, hA, hV, rfl, hfz, hnd⟩ := hW
  rw [hv] at hV
  obtain ⟨rfl, rfl⟩ := trodVars_none hV
  refine ⟨ds, [], p ++ [], [], p, [], hW', ?_, ?_, ?_, hb.frame _, fun h => by cases h⟩
  · rw [List.append_nil, hfn, hres]
    exact trodAll_mk1 (shut_bool htb _)
  · rw [List.append_nil, hfn]
    exact trodAll_below hl hts hA hb fun x hx => hlt x (by simp [hx])
  · rw [hv, List.append_nil, hfn]; exact rfl
end
/-! ### What comes in -/
section
variable {H : Type} {enc : TypeId × Value → H} {P : Program} {w : World}
theorem in_ints {t e : TypeId} {fuel : Nat} {cs : List Value} {x : DataW H × List MemPlace} (ht : P.underlying t = some (.slice e)) (he : P.underlying e = some (.int .i64)) (hc : P.cellsOf e = 1) (h : DataW.trod enc P w 0 (fun _ => true) true fuel t cs = some x) :
    ∃ (oa : Option Addr) (ca : Nat) (xs : List Int), cs = [.slice oa xs.length ca] ∧ ArrAt w [] oa (ints xs) ∧ xs.length ≤ ca ∧ ca ≤ maxLen ∧ ∀ x, x ∈ xs → -9223372036854775808 ≤ x ∧ x ≤ 9223372036854775807 := by
  rcases open_ints ht he hc h with ⟨h1, _⟩ | ⟨a, len, cap, zs, h1, _, h3, h4, h5, _, h7, h8⟩
  · exact ⟨none, 0, [], h1, .inl rfl, Nat.le_refl _, Nat.zero_le _, fun x hx => by cases hx⟩
  · have hl : (zs.take len).length = len := by rw [List.length_take]; simp only [if_true] at h5; omega
    refine ⟨some a, cap, zs.take len, by rw [hl]; exact h1, ?_, by omega, h4, fun z hz => ?_⟩
    · by_cases h0 : zs.take len = []
      · exact .inl (by rw [h0]; rfl)
      · have hpos : 0 < zs.length := by
          cases zs with
          | nil => simp at h0
          | cons z zs => simp
        have hc0 := h7 0 hpos
        have hsp : a.spot = none := by have := World.cell?_spot hc0; simpa [Addr.add] using this
        obtain ⟨b, off, sp⟩ := a
        simp only at hsp
        subst hsp
        refine .inr ⟨b, off, rfl, by simp, ?_, fun j v hj => ?_⟩
        · unfold World.cell? at hc0
          simp only [Addr.add, if_true] at hc0
          cases hh : w.heap[b]? with
          | none => rw [hh] at hc0; cases hc0
          | some o => exact (Array.getElem?_eq_some_iff.1 hh).1
        · rw [List.getElem?_map] at hj
          cases hz : (zs.take len)[j]? with
          | none => rw [hz] at hj; cases hj
          | some z =>
            rw [hz] at hj
            simp only [Option.map_some, Option.some.injEq] at hj
            subst hj
            rw [List.getElem?_take] at hz
            split at hz
            · have hjl := (List.getElem?_eq_some_iff.1 hz).1
              have := h7 j hjl
              rw [addr_add] at this
              rw [this]
              simp [List.getD, hz]
            · cases hz
    · have := h8 z (List.mem_of_mem_take hz)
      simp only [Lit.wf, Bool.and_eq_true, decide_eq_true_eq, IntKind.has] at this
      simp [IntKind.min, IntKind.max, IntKind.signed, IntKind.bits] at this
      omega
/-- a struct of two ints, a text and a slice of such structs -/
structure NodeTy (P : Program) (tn : Nat) (f0 f1 f2 f3 : Field) : Prop where
  hs : P.underlying tn = some (.struct #[f0, f1, f2, f3])
  o0 : f0.offset = 0
  o1 : f1.offset = 1
  o2 : f2.offset = 2
  o3 : f3.offset = 3
  t0 : P.underlying f0.type = some (.int .i64)
  t1 : P.underlying f1.type = some (.int .i64)
  t2 : P.underlying f2.type = some .string
  t3 : P.underlying f3.type = some (.slice tn)
  c0 : P.cellsOf f0.type = 1
  c1 : P.cellsOf f1.type = 1
  c2 : P.cellsOf f2.type = 1
  c3 : P.cellsOf f3.type = 1
  cn : P.cellsOf tn = 4
theorem kids_build {b off : Nat} : ∀ (n o : Nat), (∀ i, i < n → ∃ (t : Tree) (cs : List Value), CellsAt w [] b (off + (o + i) * 4) cs ∧ TreeAt w [] t (.agg cs.toArray)) → ∃ ts : List Tree, ts.length = n ∧ KidsAt w [] b (off + o * 4) ts
  | 0, o, _ => ⟨[], rfl, by simp only [KidsAt]⟩
  | n + 1, o, h => by
    obtain ⟨t, cs, h1, h2⟩ := h 0 (by omega)
    obtain ⟨ts, hl, h3⟩ := kids_build n (o + 1) fun i hi => by
      have := h (i + 1) (by omega)
      rw [show o + (i + 1) = o + 1 + i from by omega] at this
      exact this
    refine ⟨t :: ts, by simp [hl], ?_⟩
    simp only [KidsAt]
    rw [show off + (o + 1) * 4 = off + o * 4 + 4 from by omega] at h3
    exact ⟨⟨cs, by simpa using h1, h2⟩, h3⟩
theorem in_tree {tn : Nat} {f0 f1 f2 f3 : Field} (T : NodeTy P tn f0 f1 f2 f3) : ∀ (fuel : Nat) {cs : List Value} {x : DataW H × List MemPlace}, DataW.trod enc P w 0 (fun _ => true) true fuel tn cs = some x →
    ∃ (t : Tree) (a : Option Addr) (len cap : Nat), cs = nodeC t a len cap ∧ TreeAt w [] t (nodeV t a len cap) := by
  intro fuel
  induction fuel using Nat.strongRecOn with
  | _ fuel ih =>
    intro cs x h
    obtain ⟨xs, n, hn, _, hcl, hxl, hf⟩ := DataW.trod_struct T.hs h
    rw [T.cn] at hcl
    have hxl : xs.length = 4 := hxl
    match cs, hcl with
    | [v0, v1, v2, v3], _ =>
      have g0 := hf 0 f0 rfl
      have g1 := hf 1 f1 rfl
      have g2 := hf 2 f2 rfl
      have g3 := hf 3 f3 rfl
      rw [T.o0, T.c0] at g0
      rw [T.o1, T.c1] at g1
      rw [T.o2, T.c2] at g2
      rw [T.o3, T.c3] at g3
      simp only [List.drop, List.take] at g0 g1 g2 g3
      rw [List.getElem?_eq_getElem (by omega)] at g0 g1 g2 g3
      obtain ⟨i, e0, _⟩ := DataW.trod_int T.t0 g0
      obtain ⟨k, e1, _⟩ := DataW.trod_int T.t1 g1
      obtain ⟨s, e2, _⟩ := DataW.trod_string T.t2 g2
      simp only [List.cons.injEq, and_true] at e0 e1 e2
      subst e0 e1 e2
      rcases DataW.trod_slice T.t3 g3 with ⟨e3, _⟩ | ⟨a, len, cap, elems, rest, m, hm, e3, _, _, hl, hcm, hlen, hel, _, _⟩
      · simp only [List.cons.injEq, and_true] at e3
        subst e3
        refine ⟨.node i k s.data.toList [], none, 0, 0, rfl, ?_⟩
        exact leaf_at _ _ _
      · simp only [List.cons.injEq, and_true] at e3
        subst e3
        by_cases h0 : len = 0
        · subst h0
          refine ⟨.node i k s.data.toList [], some a, 0, cap, rfl, ?_⟩
          simp only [TreeAt]
          exact ⟨some a, 0, cap, rfl, rfl, hl, hcm, .inl rfl⟩
        · have each : ∀ i, i < len → ∃ cs', w.cells? 0 (a.add (i * 4)) 4 = some cs' ∧ ∃ y, DataW.trod enc P w 0 (fun _ => true) true m tn cs' = some y := by
            intro i hi
            have := hel i hi
            rw [T.cn, List.getElem?_eq_getElem (by omega)] at this
            obtain ⟨cs', h1, h2⟩ := Option.bind_eq_some_iff.1 this
            exact ⟨cs', h1, _, h2⟩
          obtain ⟨c0, hc0, _⟩ := each 0 (by omega)
          have hz := (World.cells?_some hc0).2.2 0 (by omega)
          have hl0 := (World.cells?_some hc0).2.1
          rw [List.getElem?_eq_getElem (by omega)] at hz
          have hsp : a.spot = none := by have := World.cell?_spot hz; simpa [Addr.add] using this
          obtain ⟨b, off, sp⟩ := a
          simp only at hsp
          subst hsp
          have hblt : b < w.heap.size := by
            unfold World.cell? at hz
            simp only [Addr.add, if_true, Nat.zero_mul] at hz
            cases hh : w.heap[b]? with
            | none => rw [hh] at hz; cases hz
            | some o => exact (Array.getElem?_eq_some_iff.1 hh).1
          obtain ⟨ts, htl, hts⟩ := kids_build (w := w) (b := b) (off := off) len 0 fun i hi => by
            obtain ⟨cs', h1, y, h2⟩ := each i hi
            obtain ⟨t, a', len', cap', e4, h5⟩ := ih m (by omega) h2
            refine ⟨t, cs', ⟨by simp, hblt, fun j v hv => ?_⟩, by rw [e4]; exact h5⟩
            obtain ⟨_, h6, h7⟩ := World.cells?_some h1
            have h8 := h7 j (by have := (List.getElem?_eq_some_iff.1 hv).1; omega)
            rw [addr_add, addr_add] at h8
            rw [Nat.zero_add]
            rw [h8]; exact hv
          refine ⟨.node i k s.data.toList ts, some ⟨b, off, none⟩, len, cap, rfl, ?_⟩
          simp only [TreeAt]
          exact ⟨some ⟨b, off, none⟩, len, cap, rfl, htl.symm, hl, hcm, .inr ⟨b, off, rfl, by simpa using hts⟩⟩
end
def isI64 (P : Program) (t : TypeId) : Bool := match P.underlying t with | some (.int .i64) => true | _ => false
def isSl (P : Program) (t e : TypeId) : Bool := match P.underlying t with | some (.slice u) => Nat.beq u e | _ => false
theorem isI64_is {P : Program} {t : TypeId} (h : isI64 P t = true) : P.underlying t = some (.int .i64) := by
  unfold isI64 at h
  split at h
  · rename_i he; exact he
  · cases h
theorem isSl_is {P : Program} {t e : TypeId} (h : isSl P t e = true) : P.underlying t = some (.slice e) := by
  unfold isSl at h
  split at h
  · rename_i u he; rw [he, Nat.eq_of_beq_eq_true h]
  · cases h
def nodeOk (P : Program) (tn : Nat) : Bool := match P.underlying tn with
  | some (.struct ⟨[f0, f1, f2, f3]⟩) => (Nat.beq f0.offset 0 && Nat.beq f1.offset 1 && Nat.beq f2.offset 2 && Nat.beq f3.offset 3) && (isI64 P f0.type && isI64 P f1.type && tyStr P f2.type && isSl P f3.type tn) &&
      (Nat.beq (P.cellsOf f0.type) 1 && Nat.beq (P.cellsOf f1.type) 1 && Nat.beq (P.cellsOf f2.type) 1 && Nat.beq (P.cellsOf f3.type) 1 && Nat.beq (P.cellsOf tn) 4)
  | _ => false
theorem nodeOk_ty {P : Program} {tn : Nat} (h : nodeOk P tn = true) : ∃ f0 f1 f2 f3, NodeTy P tn f0 f1 f2 f3 := by
  unfold nodeOk at h
  split at h
  · rename_i f0 f1 f2 f3 he
    simp only [Bool.and_eq_true] at h
    obtain ⟨⟨⟨⟨⟨a0, a1⟩, a2⟩, a3⟩, ⟨⟨b0, b1⟩, b2⟩, b3⟩, ⟨⟨⟨c0, c1⟩, c2⟩, c3⟩, c4⟩ := h
    exact ⟨f0, f1, f2, f3, he, Nat.eq_of_beq_eq_true a0, Nat.eq_of_beq_eq_true a1, Nat.eq_of_beq_eq_true a2, Nat.eq_of_beq_eq_true a3, isI64_is b0, isI64_is b1, tyStr_underlying b2, isSl_is b3,
      Nat.eq_of_beq_eq_true c0, Nat.eq_of_beq_eq_true c1, Nat.eq_of_beq_eq_true c2, Nat.eq_of_beq_eq_true c3, Nat.eq_of_beq_eq_true c4⟩
  · cases h
/-- a struct that is an argument -/
theorem in_node {H : Type} {enc : TypeId × Value → H} {P : Program} {W : World} {r : Reach} {b0 tn : Nat} {v : Value} {d : DataW H} {ps : List MemPlace} (hk : nodeOk P tn = true) (hval : Value.okWide P W r b0 tn v) (h : DataW.Trod enc P W 0 (fun _ => true) true tn v d ps) :
    ∃ (t : Tree) (a : Option Addr) (len cap : Nat), v = nodeV t a len cap ∧ TreeAt W [] t (nodeV t a len cap) := by
  obtain ⟨f0, f1, f2, f3, T⟩ := nodeOk_ty hk
  obtain ⟨fuel, hf⟩ := h
  obtain ⟨t, a, len, cap, e, ht⟩ := in_tree T fuel hf
  unfold Value.okWide at hval
  rw [T.hs] at hval
  obtain ⟨cs, rfl, _⟩ := hval
  refine ⟨t, a, len, cap, ?_, ht⟩
  have e : cs.toList = nodeC t a len cap := e
  rw [nodeV, ← e]
theorem in_ints1 {H : Type} {enc : TypeId × Value → H} {P : Program} {W : World} {r : Reach} {b0 t e : Nat} {v : Value} {d : DataW H} {ps : List MemPlace} (hs : isSl P t e = true) (he : isI64 P e = true) (hc : Nat.beq (P.cellsOf e) 1 = true) (hval : Value.okWide P W r b0 t v) (h : DataW.Trod enc P W 0 (fun _ => true) true t v d ps) :
    ∃ (oa : Option Addr) (ca : Nat) (xs : List Int), v = .slice oa xs.length ca ∧ ArrAt W [] oa (ints xs) ∧ xs.length ≤ ca ∧ ca ≤ maxLen ∧ ∀ x, x ∈ xs → -9223372036854775808 ≤ x ∧ x ≤ 9223372036854775807 := by
  obtain ⟨fuel, hf⟩ := h
  obtain ⟨oa, ca, xs, e1, h2⟩ := in_ints (isSl_is hs) (isI64_is he) (Nat.eq_of_beq_eq_true hc) hf
  refine ⟨oa, ca, xs, ?_, h2⟩
  cases v <;> simp [Value.cells] at e1 ⊢
  all_goals first | exact e1 | (exfalso; unfold Value.okWide at hval; rw [isSl_is hs] at hval; simp [Cell.okWide, Cell.ok, isSl_is hs] at hval)
end Go.GL
