/- One operation by itself: for statements whose order Go leaves open. Printed by mkpv.py out of the rules, but for the last part. No condition; over every program. -/
import Derived.Test.YtdlpaojkkekdlaaDraw
namespace Go.GL
section
variable {P : Program} {E : Env} {M : List HP} {F : List Fact}
variable {d : Nat} {ty : TypeId} {pos : String} {aft : Array Edge} {gd : Option (Nat × Bool)}
theorem PV.move {x : Operand} {v : Value} (hx : evalO E x = some v) : PV P E M F ⟨some d, .move x, ty, pos, aft, gd⟩ (v) := ⟨rfl,
  (fun ρ hρ w _ => by simp [execOp, hρ _ _ hx])⟩
theorem PV.assign {x : Operand} {v : Value} (hx : evalO E x = some v) : PV P E M F ⟨some d, .assign x, ty, pos, aft, gd⟩ (v) := ⟨rfl,
  (fun ρ hρ w _ => by simp [execOp, hρ _ _ hx])⟩
theorem PV.pickT {c x y : Operand} {v : Value} (hc : evalO E c = some (.bool true)) (hx : evalO E x = some v) : PV P E M F ⟨some d, .pick c x y, ty, pos, aft, gd⟩ (v) := ⟨rfl,
  (fun ρ hρ w _ => by simp [execOp, hρ _ _ hc, hρ _ _ hx, asBool])⟩
theorem PV.pickF {c x y : Operand} {v : Value} (hc : evalO E c = some (.bool false)) (hy : evalO E y = some v) : PV P E M F ⟨some d, .pick c x y, ty, pos, aft, gd⟩ (v) := ⟨rfl,
  (fun ρ hρ w _ => by simp [execOp, hρ _ _ hc, hρ _ _ hy, asBool])⟩
theorem PV.nilCheck {x : Operand} {a : Addr} (hx : evalO E x = some (.pointer (some a))) : PV P E M F ⟨some d, .nilCheck x, ty, pos, aft, gd⟩ (.pointer (some a)) := ⟨rfl,
  (fun ρ hρ w _ => by simp [execOp, hρ _ _ hx])⟩
theorem PV.extract {x : Operand} {i : Nat} {vs : Array Value} {v : Value} (hx : evalO E x = some (.tuple vs)) (hv : vs[i]? = some v) : PV P E M F ⟨some d, .extract x i, ty, pos, aft, gd⟩ (v) := ⟨rfl,
  (fun ρ hρ w _ => by simp [execOp, hρ _ _ hx, Instr.extract, hv])⟩
theorem PV.not {t : TypeId} {x : Operand} {b : Bool} (hx : evalO E x = some (.bool b)) : PV P E M F ⟨some d, .unOp .not t x, ty, pos, aft, gd⟩ (.bool (!b)) := ⟨rfl,
  (fun ρ hρ w _ => by simp [execOp, hρ _ _ hx, Op.unary])⟩
theorem PV.load1 {t bt : TypeId} {x : Operand} {b off : Nat} {cs : List Value} {v : Value} (i : Nat) (ht : tyScalar P t = true) (hx : evalO E x = some (.pointer (some ⟨b, off, none⟩))) (hi : M[i]? = some (Box b bt cs)) (hc : cs[off]? = some v) : PV P E M F ⟨some d, .load t x, ty, pos, aft, gd⟩ (v) := ⟨rfl,
  (fun ρ hρ w hw => by
    have hb := hw.heap hi
    simp [execOp, hρ _ _ hx, Instr.loadAt, Instr.sureAddr, run_loadVar_scalar ht ((cell_of_box hb).trans hc)])⟩
theorem PV.loadA {t bt : TypeId} {x : Operand} {b : Nat} {cs : List Value} (i : Nat) (hx : evalO E x = some (.pointer (some ⟨b, 0, none⟩))) (hi : M[i]? = some (Box b bt cs)) (ht : tyAgg P t cs.length = true) : PV P E M F ⟨some d, .load t x, ty, pos, aft, gd⟩ (.agg cs.toArray) := ⟨rfl,
  (fun ρ hρ w hw => by
    have hb := hw.heap hi
    simp [execOp, hρ _ _ hx, Instr.loadAt, Instr.sureAddr, run_loadVar_agg ht (a := ⟨b, 0, none⟩) rfl fun j v hv => by rw [addr_add, cell_of_box hb]; simpa using hv])⟩
theorem PV.loadF {t : TypeId} {x : Operand} {a : Addr} {v : Value} (hx : evalO E x = some (.pointer (some a))) (hF : ∀ w K, FAll F w K → Reads P w t a v) : PV P E M F ⟨some d, .load t x, ty, pos, aft, gd⟩ (v) := ⟨rfl,
  (fun ρ hρ w hw => by
    obtain ⟨K, _, _, hf⟩ := hw
    have := hF w K hf
    unfold Reads at this
    simp [execOp, hρ _ _ hx, Instr.loadAt, Instr.sureAddr, this])⟩
theorem PV.loadS {t : TypeId} {x : Operand} {a : Addr} {v : Value} (hx : evalO E x = some (.pointer (some a))) (hF : ∀ w, St w M F → Reads P w t a v) : PV P E M F ⟨some d, .load t x, ty, pos, aft, gd⟩ (v) := ⟨rfl,
  (fun ρ hρ w hw => by
    have := hF w hw
    unfold Reads at this
    simp [execOp, hρ _ _ hx, Instr.loadAt, Instr.sureAddr, this])⟩
theorem PV.fieldAddr {t : TypeId} {x : Operand} {f b off o : Nat} (hf : fieldOff P t f o = true) (hx : evalO E x = some (.pointer (some ⟨b, off, none⟩))) : PV P E M F ⟨some d, .fieldAddr t x f, ty, pos, aft, gd⟩ (.pointer (some ⟨b, off + o, none⟩)) := ⟨rfl,
  (fun ρ hρ w _ => by
    unfold fieldOff at hf
    cases hu : P.underlying t with
    | none => rw [hu] at hf; cases hf
    | some td =>
      rw [hu] at hf
      cases td <;> try (cases hf; done)
      rename_i fs
      simp only at hf
      cases hfd : fs[f]? with
      | none => rw [hfd] at hf; cases hf
      | some fd =>
        rw [hfd] at hf
        simp only [Bool.and_eq_true] at hf
        obtain ⟨h1, h2⟩ := hf
        have h1' := Nat.eq_of_beq_eq_true h1
        cases hi : P.info? fd.type with
        | none => rw [hi] at h2; cases h2
        | some ti =>
          rw [hi] at h2
          have hne : ¬ ti.size = 0 := by
            intro e
            simp only [e] at h2
            cases h2
          subst h1'
          simp [execOp, hρ _ _ hx, Instr.fieldAt, run_underlying hu, hfd, Instr.sureAddr, fieldPlace, sizeOf, typeInfo, hi, hne, addr_add])⟩
theorem PV.indexAddr {t e : TypeId} {x y : Operand} {b off len cap size : Nat} {ik : IntKind} {n : Int} (ht : tySlice P t e = true) (hz : tySize P e size = true) (hx : evalO E x = some (.slice (some ⟨b, off, none⟩) len cap)) (hy : evalO E y = some (.int ik n)) (h0 : 0 ≤ n) (h1 : n < len) : PV P E M F ⟨some d, .indexAddr t x y, ty, pos, aft, gd⟩ (.pointer (some ⟨b, off + n.toNat * size, none⟩)) := ⟨rfl,
  (fun ρ hρ w _ => by
    simp [execOp, hρ _ _ hx, hρ _ _ hy, Instr.indexAt, asIntOf, run_underlying (run_tySlice ht), h0, h1, run_sizeOf' hz, addr_add])⟩
theorem PV.indexAddrO {t e : TypeId} {x y : Operand} {a : Addr} {len cap size : Nat} {ik : IntKind} {n : Int} (ht : tySlice P t e = true) (hz : tySize P e size = true) (hx : evalO E x = some (.slice (some a) len cap)) (hy : evalO E y = some (.int ik n)) (h0 : 0 ≤ n) (h1 : n < len) : PV P E M F ⟨some d, .indexAddr t x y, ty, pos, aft, gd⟩ (.pointer (some (a.add (n.toNat * size)))) := ⟨rfl,
  (fun ρ hρ w _ => by
    simp [execOp, hρ _ _ hx, hρ _ _ hy, Instr.indexAt, asIntOf, run_underlying (run_tySlice ht), h0, h1, run_sizeOf' hz])⟩
theorem PV.bin {op : BinOp} {t yt : TypeId} {x y : Operand} {vx vy v : Value} (hx : evalO E x = some vx) (hy : evalO E y = some vy) (h : BinV P op t vx vy v) : PV P E M F ⟨some d, .binOp op t x y yt, ty, pos, aft, gd⟩ (v) := ⟨rfl,
  (fun ρ hρ w _ => by
    have h1 := h.1 w
    have h2 := h.2 x y w
    simp [execOp, hρ _ _ hx, hρ _ _ hy, h1, h2])⟩
theorem PV.lenSlice {T e : TypeId} {x : Operand} {oa : Option Addr} {n cap : Nat} {aty : Array TypeId} (ht : tySlice P T e = true) (hx : evalO E x = some (.slice oa n cap)) (hT : aty = #[T] := by rfl) : PV P E M F ⟨some d, .call ⟨.builtin .len, #[x], aty⟩, ty, pos, aft, gd⟩ (I n) := ⟨rfl,
  (fun ρ hρ w _ => by
    subst hT
    simp [execOp, resolve, hρ _ _ hx, invoke, builtin, Builtin.len_, run_underlying (run_tySlice ht), goInt])⟩
theorem PV.lenStr {T : TypeId} {x : Operand} {l : List UInt8} {aty : Array TypeId} (ht : tyStr P T = true) (hx : evalO E x = some (S l)) (hT : aty = #[T] := by rfl) : PV P E M F ⟨some d, .call ⟨.builtin .len, #[x], aty⟩, ty, pos, aft, gd⟩ (I l.length) := ⟨rfl,
  (fun ρ hρ w _ => by
    subst hT
    simp [execOp, resolve, hρ _ _ hx, invoke, builtin, Builtin.len_, run_underlying (tyStr_underlying ht), goInt, S_size])⟩
theorem PV.max {x y : Operand} {k1 : IntKind} {a b : Int} {aty : Array TypeId} (hx : evalO E x = some (.int k1 a)) (hy : evalO E y = some (.int k1 b)) : PV P E M F ⟨some d, .call ⟨.builtin .max, #[x, y], aty⟩, ty, pos, aft, gd⟩ (.int k1 (max a b)) := ⟨rfl,
  (fun ρ hρ w _ => by
    simp [execOp, resolve, hρ _ _ hx, hρ _ _ hy, invoke, builtin, Builtin.max_, Builtin.max2, ← max_if])⟩
theorem PV.min {x y : Operand} {k1 : IntKind} {a b : Int} {aty : Array TypeId} (hx : evalO E x = some (.int k1 a)) (hy : evalO E y = some (.int k1 b)) : PV P E M F ⟨some d, .call ⟨.builtin .min, #[x, y], aty⟩, ty, pos, aft, gd⟩ (.int k1 (min a b)) := ⟨rfl,
  (fun ρ hρ w _ => by
    simp [execOp, resolve, hρ _ _ hx, hρ _ _ hy, invoke, builtin, Builtin.min_, Builtin.min2, ← min_if])⟩
theorem PV.indexS {T : TypeId} {x y : Operand} {l : List UInt8} {n : Int} {u : UInt8} (ht : tyStr P T = true) (hx : evalO E x = some (S l)) (hy : evalO E y = some (I n)) (h0 : 0 ≤ n) (hu : l[n.toNat]? = some u) : PV P E M F ⟨some d, .index T x y, ty, pos, aft, gd⟩ (.int .u8 u.toNat) := ⟨rfl,
  (fun ρ hρ w _ => by
    have hb : (⟨l.toArray⟩ : ByteArray)[n.toNat]? = some u := by
      have hlt := (List.getElem?_eq_some_iff.1 hu).1
      rw [getElem?_pos (⟨l.toArray⟩ : ByteArray) n.toNat (by rw [S_size]; exact hlt)]
      rw [List.getElem?_eq_getElem hlt] at hu
      exact hu
    simp [execOp, hρ _ _ hx, hρ _ _ hy, Instr.index, asIntOf, run_underlying (tyStr_underlying ht), h0, hb])⟩
theorem PV.sliceS {T : TypeId} {x y z : Operand} {l : List UInt8} {i j : Int} (ht : tyStr P T = true) (hx : evalO E x = some (S l)) (hy : evalO E y = some (I i)) (hz : evalO E z = some (I j)) (h0 : 0 ≤ i) (h1 : i ≤ j) (h2 : j ≤ l.length) : PV P E M F ⟨some d, .slice T x (some y) (some z) none, ty, pos, aft, gd⟩ (S ((l.take j.toNat).drop i.toNat)) := ⟨rfl,
  (fun ρ hρ w _ => by
    have e : (⟨l.toArray⟩ : ByteArray).extract i.toNat j.toNat = ⟨((l.take j.toNat).drop i.toNat).toArray⟩ := by
      apply ByteArray.ext
      simp [ByteArray.data_extract, List.drop_take]
    have h3 : (0 : Int) ≤ j := by omega
    have h4 : ¬ Max.max j 0 < i := by omega
    simp [execOp, hρ _ _ hx, hρ _ _ hy, hρ _ _ hz, Instr.sliceAt, Instr.slice, Instr.sliceBounds, Instr.sliceBound, asIntOf, run_underlying (tyStr_underlying ht), S_size, h0, h2, h3, h4, e])⟩
theorem PV.sliceSfrom {T : TypeId} {x y : Operand} {l : List UInt8} {i : Int} (ht : tyStr P T = true) (hx : evalO E x = some (S l)) (hy : evalO E y = some (I i)) (h0 : 0 ≤ i) (h2 : i ≤ l.length) : PV P E M F ⟨some d, .slice T x (some y) none none, ty, pos, aft, gd⟩ (S (l.drop i.toNat)) := ⟨rfl,
  (fun ρ hρ w _ => by
    have e : (⟨l.toArray⟩ : ByteArray).extract i.toNat l.length = ⟨(l.drop i.toNat).toArray⟩ := by
      apply ByteArray.ext
      simp [ByteArray.data_extract]
      exact List.take_of_length_le (by simp)
    simp [execOp, hρ _ _ hx, hρ _ _ hy, Instr.sliceAt, Instr.slice, Instr.sliceBounds, Instr.sliceBound, asIntOf, run_underlying (tyStr_underlying ht), S_size, h0, h2, e])⟩
theorem PV.sliceSto {T : TypeId} {x z : Operand} {l : List UInt8} {j : Int} (ht : tyStr P T = true) (hx : evalO E x = some (S l)) (hz : evalO E z = some (I j)) (h0 : 0 ≤ j) (h2 : j ≤ l.length) : PV P E M F ⟨some d, .slice T x none (some z) none, ty, pos, aft, gd⟩ (S (l.take j.toNat)) := ⟨rfl,
  (fun ρ hρ w _ => by
    have e : (⟨l.toArray⟩ : ByteArray).extract 0 j.toNat = ⟨(l.take j.toNat).toArray⟩ := by
      apply ByteArray.ext
      simp [ByteArray.data_extract]
    simp [execOp, hρ _ _ hx, hρ _ _ hz, Instr.sliceAt, Instr.slice, Instr.sliceBounds, Instr.sliceBound, asIntOf, run_underlying (tyStr_underlying ht), S_size, h0, h2, e])⟩
theorem PV.sliceLH {T e : TypeId} {x : Operand} {lo hi : Option Operand} {oa : Option Addr} {n cap size l h : Nat} (ht : tySlice P T e = true) (hz : tySize P e size = true) (hx : evalO E x = some (.slice oa n cap))
    (hlo : (lo = none ∧ l = 0) ∨ ∃ o, lo = some o ∧ evalO E o = some (I l)) (hhi : (hi = none ∧ h = n) ∨ ∃ o, hi = some o ∧ evalO E o = some (I h)) (h1 : l ≤ h) (h2 : h ≤ cap) : PV P E M F ⟨some d, .slice T x lo hi none, ty, pos, aft, gd⟩ (.slice (cutA oa l cap size) (h - l) (cap - l)) := ⟨rfl,
  (fun ρ hρ w _ => by
    have h3 : ¬ cap < h := by omega
    have h4 : ¬ h < l := by omega
    rcases hlo with ⟨rfl, rfl⟩ | ⟨o, rfl, ho⟩ <;> rcases hhi with ⟨rfl, rfl⟩ | ⟨o', rfl, ho'⟩
    · simp [execOp, hρ _ _ hx, Instr.sliceAt, Instr.slice, Instr.sliceBounds, run_underlying (run_tySlice ht), run_sizeOf' hz, cutA]
    · simp [execOp, hρ _ _ hx, hρ _ _ ho', Instr.sliceAt, Instr.slice, Instr.sliceBounds, Instr.sliceBound, asIntOf, run_underlying (run_tySlice ht), run_sizeOf' hz, h3, cutA]
    · simp [execOp, hρ _ _ hx, hρ _ _ ho, Instr.sliceAt, Instr.slice, Instr.sliceBounds, Instr.sliceBound, asIntOf, run_underlying (run_tySlice ht), run_sizeOf' hz, h4, cutA]
    · simp [execOp, hρ _ _ hx, hρ _ _ ho, hρ _ _ ho', Instr.sliceAt, Instr.slice, Instr.sliceBounds, Instr.sliceBound, asIntOf, run_underlying (run_tySlice ht), run_sizeOf' hz, h1, h2, cutA])⟩
theorem PV.build {T : TypeId} {ps : List (Nat × Operand)} {vs : List (Nat × Value)} {v : Value} (hp : evalParts E ps = some vs) (hb : BuildV P T vs v) : PV P E M F ⟨some d, .build T ps.toArray, ty, pos, aft, gd⟩ (v) := ⟨rfl,
  (fun ρ hρ w _ => by
    have := hb w
    simp [execOp, evalParts_map hρ hp, this])⟩
end
section
variable {P : Program} {r : Option Nat} {Q : Exit → Act → World → Prop} {E : Env} {M : List HP} {F : List Fact}
variable {d : Nat} {ty : TypeId} {pos : String} {aft : Array Edge} {gd : Option (Nat × Bool)}
theorem EV.of_val {o : Oper} {v : Value} (h : PV P E M F o v) : EV P r Q E M F o Unit (fun _ => v) (fun _ => M) (fun _ => F) := ⟨h.1, fun a w next ha hw hk => by
  rw [h.2 a.eval ha w hw]
  exact hk () w hw⟩
/-- an operation that gives a value and turns the world -/
theorem EV.of_gen {o : Oper} {ι : Type} {val : ι → Value} {M' : ι → List HP} {F' : ι → List Fact} (hnd : isDefer o.op = false) (h : ∀ ρ : Operand → Value, (∀ x u, evalO E x = some u → ρ x = u) → ∀ w, St w M F → ∃ i w', (execOp ρ o).run P w = .ok (.value (val i)) w' ∧ St w' (M' i) (F' i)) :
    EV P r Q E M F o ι val M' F' := ⟨hnd, fun a w next ha hw hk => by
  obtain ⟨i, w', e, hst⟩ := h a.eval ha w hw
  rw [e]
  exact hk i w' hst⟩
theorem EV.of_eff {o : Oper} {M' : List HP} (hnd : isDefer o.op = false) (h : ∀ ρ : Operand → Value, (∀ x u, evalO E x = some u → ρ x = u) → ∀ w, St w M F → ∃ w', (execOp ρ o).run P w = .ok .skip w' ∧ St w' M' F) :
    EV P r Q E M F o Unit (fun _ => undef) (fun _ => M') (fun _ => F) := ⟨hnd, fun a w next ha hw hk => by
  obtain ⟨w', e, hst⟩ := h a.eval ha w hw
  rw [e]
  exact hk () w' hst⟩
theorem args_of {ρ : Operand → Value} (hρ : ∀ x u, evalO E x = some u → ρ x = u) : ∀ {os : List Operand} {vs : List Value}, evalArgs E os = some vs → os.map ρ = vs
  | [], vs, e => by simpa [evalArgs] using e
  | o :: os, vs, e => by
    simp only [evalArgs] at e
    cases h1 : evalO E o with
    | none => rw [h1] at e; cases e
    | some v =>
      cases h2 : evalArgs E os with
      | none => rw [h1, h2] at e; cases e
      | some us =>
        rw [h1, h2] at e
        simp at e
        subst e
        simp [hρ _ _ h1, args_of hρ h2]
theorem EV.callV {cal : Operand} {as : List Operand} {ats : Array TypeId} {vs fst cap : List Value} {f : FuncId} {ι : Type} {val : ι → Value} {M' : ι → List HP} {F' : ι → List Fact}
    (hc : evalO E cal = some (.func (.func f) fst.toArray cap.toArray)) (ha : evalArgs E as = some vs) (hcall : ∀ args w, (callFunc f args).run P w = .ok (.enter f args) w)
    (h : Ctr P f (fst ++ vs ++ cap) M F ι val M' F') : EV P r Q E M F ⟨some d, .call ⟨.value cal, as.toArray, ats⟩, ty, pos, aft, gd⟩ ι val M' F' := ⟨rfl, fun a w next hs hw hk => by
  have e1 : (execOp a.eval ⟨some d, .call ⟨.value cal, as.toArray, ats⟩, ty, pos, aft, gd⟩).run P w = .ok (.enter f (fst ++ vs ++ cap).toArray) w := by
    simp [execOp, resolve, hs _ _ hc, args_of hs ha, Deferred.ofValue, invoke, hcall]
  rw [e1]
  refine ⟨fun h => by simp at h, ?_⟩
  have := h w hw
  refine ⟨this.1, fun cs hr => ?_⟩
  obtain ⟨e, w', fr, ⟨i, he, hst⟩, rest'⟩ := this.2 cs hr
  subst he
  exact ⟨_, w', fr, hk i w' hst, rest'⟩⟩
theorem EV.call {as : List Operand} {ats : Array TypeId} {vs : List Value} {f : FuncId} {ι : Type} {val : ι → Value} {M' : ι → List HP} {F' : ι → List Fact}
    (ha : evalArgs E as = some vs) (hcall : ∀ args w, (callFunc f args).run P w = .ok (.enter f args) w)
    (h : Ctr P f vs M F ι val M' F') : EV P r Q E M F ⟨some d, .call ⟨.value (.func f), as.toArray, ats⟩, ty, pos, aft, gd⟩ ι val M' F' :=
  EV.callV (fst := []) (cap := []) rfl ha hcall (by simpa using h)
end
end Go.GL
