/- The rules of the walk for each operation. No condition; over every program. -/
import Derived.Test.YtdlpaojkkekdlaaRules
import Derived.KernelRfl
namespace Go.GL

/-! ### Types -/
def tyScalar (P : Program) (t : TypeId) : Bool :=
  (match P.underlying t with | some (.struct _) | some (.array _ _) | none => false | _ => true) && ((P.info? t).map (·.size)) == some 1
def tyAgg (P : Program) (t : TypeId) (n : Nat) : Bool :=
  (match P.underlying t with | some (.struct _) | some (.array _ _) => true | _ => false) && ((P.info? t).map (·.size)) == some n
def tySlice (P : Program) (t e : TypeId) : Bool := match P.underlying t with | some (.slice e') => Nat.beq e' e | _ => false
def tySize (P : Program) (t : TypeId) (n : Nat) : Bool := ((P.info? t).map (·.size)) == some n
def tyStr (P : Program) (t : TypeId) : Bool := match P.underlying t with | some .string => true | _ => false
def fieldOff (P : Program) (t : TypeId) (f : Nat) (off : Nat) : Bool := match P.underlying t with
  | some (.struct fs) => match fs[f]? with
    | some fd => Nat.beq fd.offset off && (match P.info? fd.type with | some i => !(Nat.beq i.size 0) | none => false)
    | none => false
  | _ => false
section
variable {P : Program} {w : World}
theorem run_tySlice {t e : TypeId} (h : tySlice P t e = true) : P.underlying t = some (.slice e) := by
  unfold tySlice at h
  split at h
  · rename_i e' he; rw [he, Nat.eq_of_beq_eq_true h]
  · cases h
theorem tyStr_underlying {t : TypeId} (h : tyStr P t = true) : P.underlying t = some .string := by
  unfold tyStr at h
  split at h
  · rename_i he; exact he
  · cases h
theorem tySize_info {t : TypeId} {n : Nat} (h : tySize P t n = true) : ∃ i, P.info? t = some i ∧ i.size = n := by
  unfold tySize at h
  cases hi : P.info? t with
  | none => rw [hi] at h; simp at h
  | some i => rw [hi] at h; exact ⟨i, rfl, by simpa using h⟩
theorem run_sizeOf' {t : TypeId} {n : Nat} (h : tySize P t n = true) : (sizeOf t).run P w = .ok n w := by
  obtain ⟨i, hi, rfl⟩ := tySize_info h
  simp [sizeOf, typeInfo, hi]
theorem tyScalar_size {t : TypeId} (h : tyScalar P t = true) : tySize P t 1 = true := by
  unfold tyScalar at h
  simp only [Bool.and_eq_true] at h
  exact h.2
theorem tyAgg_size {t : TypeId} {n : Nat} (h : tyAgg P t n = true) : tySize P t n = true := by
  unfold tyAgg at h
  simp only [Bool.and_eq_true] at h
  exact h.2
theorem run_isAgg_scalar {t : TypeId} (h : tyScalar P t = true) : (isAgg t).run P w = .ok false w := by
  unfold tyScalar at h
  simp only [Bool.and_eq_true] at h
  cases hu : P.underlying t with
  | none => rw [hu] at h; simp at h
  | some d => rw [hu] at h; cases d <;> simp_all [isAgg, run_underlying hu]
theorem run_isAgg_agg {t : TypeId} {n : Nat} (h : tyAgg P t n = true) : (isAgg t).run P w = .ok true w := by
  unfold tyAgg at h
  simp only [Bool.and_eq_true] at h
  cases hu : P.underlying t with
  | none => rw [hu] at h; simp at h
  | some d => rw [hu] at h; cases d <;> simp_all [isAgg, run_underlying hu]
theorem addr_add (b off n : Nat) : (⟨b, off, none⟩ : Addr).add n = ⟨b, off + n, none⟩ := by
  unfold Addr.add
  split
  · rename_i h; subst h; rfl
  · rfl
theorem run_loadVar_scalar {t : TypeId} (h : tyScalar P t = true) {a : Addr} {v : Value} (hc : w.cell? a = some v) : (loadVar t a).run P w = .ok v w := by
  simp [loadVar, run_isAgg_scalar h, hc]
theorem run_loadVar_agg {t : TypeId} {n : Nat} (h : tyAgg P t n = true) {a : Addr} {vs : List Value} (hl : vs.length = n) (hc : ∀ j v, vs[j]? = some v → w.cell? (a.add j) = some v) : (loadVar t a).run P w = .ok (.agg vs.toArray) w := by
  have := run_loadCells_list (P := P) w a vs hc
  simp [loadVar, run_isAgg_agg h, run_sizeOf' (tyAgg_size h), ← hl, this]
theorem cell_of_box {b t off : Nat} {cs : List Value} (h : w.heap[b]? = some (.cells cs.toArray t (0, 0))) : w.cell? ⟨b, off, none⟩ = cs[off]? := by
  simpa using cell_of_row w b off cs.toArray t (0, 0) h
theorem run_storeVar_scalar {t : TypeId} (h : tyScalar P t = true) {b off bt : Nat} {cs : List Value} {v : Value} (hb : w.heap[b]? = some (.cells cs.toArray bt (0, 0))) (ho : off < cs.length) (h1 : v.oneCell' = true) :
    (storeVar t ⟨b, off, none⟩ v).run P w = .ok () (w.setCell ⟨b, off, none⟩ v) := by
  have hv : v.cells = #[v] := by cases v <;> first | rfl | simp [Value.oneCell'] at h1
  have hc : w.cell? ⟨b, off, none⟩ = some cs[off] := by rw [cell_of_box hb]; exact List.getElem?_eq_getElem ho
  have hf : w.frozen? ⟨b, off, none⟩ = false := by simp [World.frozen?, hb]
  simp [storeVar, hv, run_sizeOf' (tyScalar_size h), storeCells, addr_add, run_store P w _ v _ h1, hc, hf]
end

section
variable {P : Program} {r : Option Nat} {N : Nat} {ops : Array Oper} {rest : List Oper} {Q : Exit → Act → World → Prop} {E : Env} {ds : List Deferred} {M : List HP} {F : List Fact}
variable {d : Nat} {ty : TypeId} {pos : String} {aft : Array Edge} {gd : Option (Nat × Bool)}
/-- an operation that gives a value and leaves the world -/
theorem RL.val {op : Op} {v : Value} (hnd : isDefer op = false) (hg : wantedG ops E gd = some true) (hN : Nat.ble (d + 1) N = true)
    (hv : ∀ ρ : Operand → Value, (∀ x u, evalO E x = some u → ρ x = u) → ∀ w, St w M F → (execOp ρ ⟨some d, op, ty, pos, aft, gd⟩).run P w = .ok (.value v) w)
    (k : RL P r N ops rest Q ((d, v) :: E) ds M F) : RL P r N ops (⟨some d, op, ty, pos, aft, gd⟩ :: rest) Q E ds M F := by
  refine RL.step hnd hg fun a w hs hw => ?_
  rw [hv a.eval (fun x u h => hs.eval h) w hw]
  exact k _ w (hs.put hN _) hw
/-- an operation whose value and world hang on the world -/
theorem RL.gen {op : Op} {ι : Type} {val : ι → Value} {M' : ι → List HP} {F' : ι → List Fact} (hnd : isDefer op = false) (hg : wantedG ops E gd = some true) (hN : Nat.ble (d + 1) N = true)
    (hv : ∀ ρ : Operand → Value, (∀ x u, evalO E x = some u → ρ x = u) → ∀ w, St w M F → ∃ i w', (execOp ρ ⟨some d, op, ty, pos, aft, gd⟩).run P w = .ok (.value (val i)) w' ∧ St w' (M' i) (F' i))
    (k : ∀ i, RL P r N ops rest Q ((d, val i) :: E) ds (M' i) (F' i)) : RL P r N ops (⟨some d, op, ty, pos, aft, gd⟩ :: rest) Q E ds M F := by
  refine RL.step hnd hg fun a w hs hw => ?_
  obtain ⟨i, w', e, hst⟩ := hv a.eval (fun x u h => hs.eval h) w hw
  rw [e]
  exact k i _ w' (hs.put hN _) hst
/-- a store -/
theorem RL.eff {op : Op} {M' : List HP} (hnd : isDefer op = false) (hg : wantedG ops E gd = some true)
    (hv : ∀ ρ : Operand → Value, (∀ x u, evalO E x = some u → ρ x = u) → ∀ w, St w M F → ∃ w', (execOp ρ ⟨none, op, ty, pos, aft, gd⟩).run P w = .ok .skip w' ∧ St w' M' F)
    (k : RL P r N ops rest Q E ds M' F) : RL P r N ops (⟨none, op, ty, pos, aft, gd⟩ :: rest) Q E ds M F := by
  refine RL.step hnd hg fun a w hs hw => ?_
  obtain ⟨w', e, hst⟩ := hv a.eval (fun x u h => hs.eval h) w hw
  rw [e]
  exact k _ w' hs hst

theorem RL.move {x : Operand} {v : Value} (hg : wantedG ops E gd = some true) (hx : evalO E x = some v) (hN : Nat.ble (d + 1) N = true) (k : RL P r N ops rest Q ((d, v) :: E) ds M F) : RL P r N ops (⟨some d, .move x, ty, pos, aft, gd⟩ :: rest) Q E ds M F :=
  RL.val rfl hg hN (fun ρ hρ w _ => by simp [execOp, hρ _ _ hx]) k
theorem RL.assign {x : Operand} {v : Value} (hg : wantedG ops E gd = some true) (hx : evalO E x = some v) (hN : Nat.ble (d + 1) N = true) (k : RL P r N ops rest Q ((d, v) :: E) ds M F) : RL P r N ops (⟨some d, .assign x, ty, pos, aft, gd⟩ :: rest) Q E ds M F :=
  RL.val rfl hg hN (fun ρ hρ w _ => by simp [execOp, hρ _ _ hx]) k
theorem RL.pickT {c x y : Operand} {v : Value} (hg : wantedG ops E gd = some true) (hc : evalO E c = some (.bool true)) (hx : evalO E x = some v) (hN : Nat.ble (d + 1) N = true) (k : RL P r N ops rest Q ((d, v) :: E) ds M F) : RL P r N ops (⟨some d, .pick c x y, ty, pos, aft, gd⟩ :: rest) Q E ds M F :=
  RL.val rfl hg hN (fun ρ hρ w _ => by simp [execOp, hρ _ _ hc, hρ _ _ hx, asBool]) k
theorem RL.pickF {c x y : Operand} {v : Value} (hg : wantedG ops E gd = some true) (hc : evalO E c = some (.bool false)) (hy : evalO E y = some v) (hN : Nat.ble (d + 1) N = true) (k : RL P r N ops rest Q ((d, v) :: E) ds M F) : RL P r N ops (⟨some d, .pick c x y, ty, pos, aft, gd⟩ :: rest) Q E ds M F :=
  RL.val rfl hg hN (fun ρ hρ w _ => by simp [execOp, hρ _ _ hc, hρ _ _ hy, asBool]) k
/-- the walk parts on a test -/
theorem RL.part {t : Nat} {b : Bool} {E' : Env} (ht : b = true → RL P r N ops rest Q ((t, .bool true) :: E') ds M F) (hf : b = false → RL P r N ops rest Q ((t, .bool false) :: E') ds M F) : RL P r N ops rest Q ((t, .bool b) :: E') ds M F := by
  cases b
  · exact hf rfl
  · exact ht rfl
theorem RL.nilCheck {x : Operand} {a : Addr} (hg : wantedG ops E gd = some true) (hx : evalO E x = some (.pointer (some a))) (hN : Nat.ble (d + 1) N = true) (k : RL P r N ops rest Q ((d, .pointer (some a)) :: E) ds M F) : RL P r N ops (⟨some d, .nilCheck x, ty, pos, aft, gd⟩ :: rest) Q E ds M F :=
  RL.val rfl hg hN (fun ρ hρ w _ => by simp [execOp, hρ _ _ hx]) k
theorem RL.extract {x : Operand} {i : Nat} {vs : Array Value} {v : Value} (hg : wantedG ops E gd = some true) (hx : evalO E x = some (.tuple vs)) (hv : vs[i]? = some v) (hN : Nat.ble (d + 1) N = true) (k : RL P r N ops rest Q ((d, v) :: E) ds M F) : RL P r N ops (⟨some d, .extract x i, ty, pos, aft, gd⟩ :: rest) Q E ds M F :=
  RL.val rfl hg hN (fun ρ hρ w _ => by simp [execOp, hρ _ _ hx, Instr.extract, hv]) k
theorem RL.not {t : TypeId} {x : Operand} {b : Bool} (hg : wantedG ops E gd = some true) (hx : evalO E x = some (.bool b)) (hN : Nat.ble (d + 1) N = true) (k : RL P r N ops rest Q ((d, .bool (!b)) :: E) ds M F) : RL P r N ops (⟨some d, .unOp .not t x, ty, pos, aft, gd⟩ :: rest) Q E ds M F :=
  RL.val rfl hg hN (fun ρ hρ w _ => by simp [execOp, hρ _ _ hx, Op.unary]) k
theorem RL.alloc1 {t : TypeId} {z : Value} (hg : wantedG ops E gd = some true) (hz : ∀ w, (zeroValue t).run P w = .ok z w) (h1 : z.oneCell' = true) (hN : Nat.ble (d + 1) N = true) (k : ∀ b, RL P r N ops rest Q ((d, .pointer (some ⟨b, 0, none⟩)) :: E) ds (Box b t [z] :: M) F) : RL P r N ops (⟨some d, .alloc t, ty, pos, aft, gd⟩ :: rest) Q E ds M F :=
  RL.gen (ι := Nat) (val := fun b => .pointer (some ⟨b, 0, none⟩)) (M' := fun b => Box b t [z] :: M) (F' := fun _ => F) rfl hg hN (fun ρ hρ w hw => by
    have hv : z.cells = #[z] := by cases z <;> first | rfl | simp [Value.oneCell'] at h1
    exact ⟨w.heap.size, _, by simp [execOp, Instr.alloc, hz, newVar, newRow, hv], hw.alloc _⟩) k
theorem RL.allocA {t : TypeId} {cs : List Value} (hg : wantedG ops E gd = some true) (hz : ∀ w, (zeroValue t).run P w = .ok (.agg cs.toArray) w) (hN : Nat.ble (d + 1) N = true) (k : ∀ b, RL P r N ops rest Q ((d, .pointer (some ⟨b, 0, none⟩)) :: E) ds (Box b t cs :: M) F) : RL P r N ops (⟨some d, .alloc t, ty, pos, aft, gd⟩ :: rest) Q E ds M F :=
  RL.gen (ι := Nat) (val := fun b => .pointer (some ⟨b, 0, none⟩)) (M' := fun b => Box b t cs :: M) (F' := fun _ => F) rfl hg hN (fun ρ hρ w hw =>
    ⟨w.heap.size, _, by simp [execOp, Instr.alloc, hz, newVar, newRow, Value.cells], hw.alloc _⟩) k
theorem RL.box1 {t : TypeId} {x : Operand} {v : Value} (hg : wantedG ops E gd = some true) (hx : evalO E x = some v) (h1 : v.oneCell' = true) (hN : Nat.ble (d + 1) N = true) (k : ∀ b, RL P r N ops rest Q ((d, .pointer (some ⟨b, 0, none⟩)) :: E) ds (Box b t [v] :: M) F) : RL P r N ops (⟨some d, .box t x, ty, pos, aft, gd⟩ :: rest) Q E ds M F :=
  RL.gen (ι := Nat) (val := fun b => .pointer (some ⟨b, 0, none⟩)) (M' := fun b => Box b t [v] :: M) (F' := fun _ => F) rfl hg hN (fun ρ hρ w hw => by
    have hv : v.cells = #[v] := by cases v <;> first | rfl | simp [Value.oneCell'] at h1
    exact ⟨w.heap.size, _, by simp [execOp, Instr.box, hρ _ _ hx, newVar, newRow, hv], hw.alloc _⟩) k
theorem RL.boxA {t : TypeId} {x : Operand} {cs : List Value} (hg : wantedG ops E gd = some true) (hx : evalO E x = some (.agg cs.toArray)) (hN : Nat.ble (d + 1) N = true) (k : ∀ b, RL P r N ops rest Q ((d, .pointer (some ⟨b, 0, none⟩)) :: E) ds (Box b t cs :: M) F) : RL P r N ops (⟨some d, .box t x, ty, pos, aft, gd⟩ :: rest) Q E ds M F :=
  RL.gen (ι := Nat) (val := fun b => .pointer (some ⟨b, 0, none⟩)) (M' := fun b => Box b t cs :: M) (F' := fun _ => F) rfl hg hN (fun ρ hρ w hw =>
    ⟨w.heap.size, _, by simp [execOp, Instr.box, hρ _ _ hx, newVar, newRow, Value.cells], hw.alloc _⟩) k
theorem RL.load1 {t bt : TypeId} {x : Operand} {b off : Nat} {cs : List Value} {v : Value} (i : Nat) (hg : wantedG ops E gd = some true) (ht : tyScalar P t = true) (hx : evalO E x = some (.pointer (some ⟨b, off, none⟩))) (hi : M[i]? = some (Box b bt cs)) (hc : cs[off]? = some v) (hN : Nat.ble (d + 1) N = true) (k : RL P r N ops rest Q ((d, v) :: E) ds M F) : RL P r N ops (⟨some d, .load t x, ty, pos, aft, gd⟩ :: rest) Q E ds M F :=
  RL.val rfl hg hN (fun ρ hρ w hw => by
    have hb := hw.heap hi
    simp [execOp, hρ _ _ hx, Instr.loadAt, Instr.sureAddr, run_loadVar_scalar ht ((cell_of_box hb).trans hc)]) k
theorem RL.loadA {t bt : TypeId} {x : Operand} {b : Nat} {cs : List Value} (i : Nat) (hg : wantedG ops E gd = some true) (hx : evalO E x = some (.pointer (some ⟨b, 0, none⟩))) (hi : M[i]? = some (Box b bt cs)) (ht : tyAgg P t cs.length = true) (hN : Nat.ble (d + 1) N = true) (k : RL P r N ops rest Q ((d, .agg cs.toArray) :: E) ds M F) : RL P r N ops (⟨some d, .load t x, ty, pos, aft, gd⟩ :: rest) Q E ds M F :=
  RL.val rfl hg hN (fun ρ hρ w hw => by
    have hb := hw.heap hi
    simp [execOp, hρ _ _ hx, Instr.loadAt, Instr.sureAddr, run_loadVar_agg ht (a := ⟨b, 0, none⟩) rfl fun j v hv => by rw [addr_add, cell_of_box hb]; simpa using hv]) k
/-- what a fact says a load reads -/
def Reads (P : Program) (w : World) (t : TypeId) (a : Addr) (v : Value) : Prop := (loadVar t a).run P w = .ok v w
theorem RL.loadF {t : TypeId} {x : Operand} {a : Addr} {v : Value} (hg : wantedG ops E gd = some true) (hx : evalO E x = some (.pointer (some a))) (hF : ∀ w K, FAll F w K → Reads P w t a v) (hN : Nat.ble (d + 1) N = true) (k : RL P r N ops rest Q ((d, v) :: E) ds M F) : RL P r N ops (⟨some d, .load t x, ty, pos, aft, gd⟩ :: rest) Q E ds M F :=
  RL.val rfl hg hN (fun ρ hρ w hw => by
    obtain ⟨K, _, _, hf⟩ := hw
    have := hF w K hf
    unfold Reads at this
    simp [execOp, hρ _ _ hx, Instr.loadAt, Instr.sureAddr, this]) k
/-- what the state says a load reads -/
theorem RL.loadS {t : TypeId} {x : Operand} {a : Addr} {v : Value} (hg : wantedG ops E gd = some true) (hx : evalO E x = some (.pointer (some a))) (hF : ∀ w, St w M F → Reads P w t a v) (hN : Nat.ble (d + 1) N = true) (k : RL P r N ops rest Q ((d, v) :: E) ds M F) : RL P r N ops (⟨some d, .load t x, ty, pos, aft, gd⟩ :: rest) Q E ds M F :=
  RL.val rfl hg hN (fun ρ hρ w hw => by
    have := hF w hw
    unfold Reads at this
    simp [execOp, hρ _ _ hx, Instr.loadAt, Instr.sureAddr, this]) k
theorem RL.store1 {t bt : TypeId} {x y : Operand} {b off : Nat} {cs : List Value} {v : Value} (i : Nat) (hg : wantedG ops E gd = some true) (ht : tyScalar P t = true) (hx : evalO E x = some (.pointer (some ⟨b, off, none⟩))) (hy : evalO E y = some v) (hi : M[i]? = some (Box b bt cs)) (ho : Nat.ble (off + 1) cs.length = true) (h1 : v.oneCell' = true) (k : RL P r N ops rest Q E ds (M.set i (Box b bt (cs.set off v))) F) : RL P r N ops (⟨none, .store t x y, ty, pos, aft, gd⟩ :: rest) Q E ds M F :=
  RL.eff rfl hg (fun ρ hρ w hw => by
    have hb := hw.heap hi
    exact ⟨_, by simp [execOp, hρ _ _ hx, hρ _ _ hy, Instr.storeAt, Instr.sureAddr, run_storeVar_scalar ht hb (Nat.le_of_ble_eq_true ho) h1], hw.setCell hi off v⟩) k
theorem St.setRow {w : World} {b bt i : Nat} {cs vs : List Value} (hw : St w M F) (hi : M[i]? = some (Box b bt cs)) : St (w.setRow b vs.toArray) (M.set i (Box b bt vs)) F := by
  have hb := hw.heap hi
  have hlt := (Array.getElem?_eq_some_iff.1 hb).1
  refine hw.putHeap hi rfl rfl rfl (by simp) ?_ fun c hc => ?_
  · simp [World.setRow, Array.getElem?_modify, hb]
  · simp only [World.setRow, Array.getElem?_modify]
    rw [if_neg (fun e => hc e.symm)]
theorem RL.storeA {t bt : TypeId} {x y : Operand} {b : Nat} {cs vs : List Value} (i : Nat) (hg : wantedG ops E gd = some true) (hx : evalO E x = some (.pointer (some ⟨b, 0, none⟩))) (hy : evalO E y = some (.agg vs.toArray)) (hi : M[i]? = some (Box b bt cs)) (ht : tySize P t vs.length = true) (hl : Nat.beq cs.length vs.length = true) (h1 : vs.all Value.oneCell' = true) (k : RL P r N ops rest Q E ds (M.set i (Box b bt vs)) F) : RL P r N ops (⟨none, .store t x y, ty, pos, aft, gd⟩ :: rest) Q E ds M F :=
  RL.eff rfl hg (fun ρ hρ w hw => by
    have hb := hw.heap hi
    have hl' := Nat.eq_of_beq_eq_true hl
    have hst := run_storeCells_at P b 0 bt vs 0 cs.toArray w hb (by simp; omega) (fun v hv => List.all_eq_true.1 h1 v hv)
    refine ⟨w.setRow b vs.toArray, ?_, hw.setRow hi⟩
    have e : (List.take (0 + 0) cs ++ vs ++ List.drop (0 + 0 + vs.length) cs).toArray = vs.toArray := by
      rw [List.drop_of_length_le (by omega)]; simp
    simp only [e] at hst
    simp [execOp, hρ _ _ hx, hρ _ _ hy, Instr.storeAt, Instr.sureAddr, storeVar, run_sizeOf' ht, Value.cells, hst]) k
theorem RL.fieldAddr {t : TypeId} {x : Operand} {f b off o : Nat} (hg : wantedG ops E gd = some true) (hf : fieldOff P t f o = true) (hx : evalO E x = some (.pointer (some ⟨b, off, none⟩))) (hN : Nat.ble (d + 1) N = true) (k : RL P r N ops rest Q ((d, .pointer (some ⟨b, off + o, none⟩)) :: E) ds M F) : RL P r N ops (⟨some d, .fieldAddr t x f, ty, pos, aft, gd⟩ :: rest) Q E ds M F :=
  RL.val rfl hg hN (fun ρ hρ w _ => by
    unfold fieldOff at hf
    cases hu : P.underlying t with
    | none => rw [hu] at hf; cases hf
    | some td =>
      rw [hu] at hf
      cases td <;> try (cases hf; done)
      rename_i fs
      simp only at hf
      cases hfd : fs[f]? with
      | none => rw [hfd] at hf; cases hf
      | some fd =>
        rw [hfd] at hf
        simp only [Bool.and_eq_true] at hf
        obtain ⟨h1, h2⟩ := hf
        have h1' := Nat.eq_of_beq_eq_true h1
        cases hi : P.info? fd.type with
        | none => rw [hi] at h2; cases h2
        | some ti =>
          rw [hi] at h2
          have hne : ¬ ti.size = 0 := by
            intro e
            simp only [e] at h2
            cases h2
          subst h1'
          simp [execOp, hρ _ _ hx, Instr.fieldAt, run_underlying hu, hfd, Instr.sureAddr, fieldPlace, sizeOf, typeInfo, hi, hne, addr_add]) k
theorem RL.indexAddr {t e : TypeId} {x y : Operand} {b off len cap size : Nat} {ik : IntKind} {n : Int} (hg : wantedG ops E gd = some true) (ht : tySlice P t e = true) (hz : tySize P e size = true) (hx : evalO E x = some (.slice (some ⟨b, off, none⟩) len cap)) (hy : evalO E y = some (.int ik n)) (h0 : 0 ≤ n) (h1 : n < len) (hN : Nat.ble (d + 1) N = true) (k : RL P r N ops rest Q ((d, .pointer (some ⟨b, off + n.toNat * size, none⟩)) :: E) ds M F) : RL P r N ops (⟨some d, .indexAddr t x y, ty, pos, aft, gd⟩ :: rest) Q E ds M F :=
  RL.val rfl hg hN (fun ρ hρ w _ => by
    simp [execOp, hρ _ _ hx, hρ _ _ hy, Instr.indexAt, asIntOf, run_underlying (run_tySlice ht), h0, h1, run_sizeOf' hz, addr_add]) k
/-- a slice's element by its place: the address is asked for only where there is one -/
theorem RL.indexAddrO {t e : TypeId} {x y : Operand} {a : Addr} {len cap size : Nat} {ik : IntKind} {n : Int} (hg : wantedG ops E gd = some true) (ht : tySlice P t e = true) (hz : tySize P e size = true) (hx : evalO E x = some (.slice (some a) len cap)) (hy : evalO E y = some (.int ik n)) (h0 : 0 ≤ n) (h1 : n < len) (hN : Nat.ble (d + 1) N = true) (k : RL P r N ops rest Q ((d, .pointer (some (a.add (n.toNat * size)))) :: E) ds M F) : RL P r N ops (⟨some d, .indexAddr t x y, ty, pos, aft, gd⟩ :: rest) Q E ds M F :=
  RL.val rfl hg hN (fun ρ hρ w _ => by
    simp [execOp, hρ _ _ hx, hρ _ _ hy, Instr.indexAt, asIntOf, run_underlying (run_tySlice ht), h0, h1, run_sizeOf' hz]) k
theorem RL.makeFunc {fn : Fn} {fs cs : List Operand} {fv cv : List Value} (hg : wantedG ops E gd = some true) (hf : evalArgs E fs = some fv) (hc : evalArgs E cs = some cv) (hN : Nat.ble (d + 1) N = true) (k : RL P r N ops rest Q ((d, .func fn fv.toArray cv.toArray) :: E) ds M F) : RL P r N ops (⟨some d, .makeFunc fn fs.toArray cs.toArray, ty, pos, aft, gd⟩ :: rest) Q E ds M F := by
  refine RL.step rfl hg fun a w hs hw => ?_
  have e : (execOp a.eval ⟨some d, .makeFunc fn fs.toArray cs.toArray, ty, pos, aft, gd⟩).run P w = .ok (.value (.func fn fv.toArray cv.toArray)) w := by
    simp [execOp, Instr.makeFunc, hs.args hf, hs.args hc]
  rw [e]
  exact k _ w (hs.put hN _) hw

/-! ### Numbers, tests, strings -/
/-- an operator's value, whatever the world -/
def BinV (P : Program) (op : BinOp) (t : TypeId) (x y v : Value) : Prop := (∀ w, (binOp op t x y).run P w = .ok v w) ∧ ∀ (ox oy : Operand) w, (eqGuard op t ox oy x y).run P w = .ok () w
theorem RL.bin {op : BinOp} {t yt : TypeId} {x y : Operand} {vx vy v : Value} (hg : wantedG ops E gd = some true) (hx : evalO E x = some vx) (hy : evalO E y = some vy) (h : BinV P op t vx vy v) (hN : Nat.ble (d + 1) N = true) (k : RL P r N ops rest Q ((d, v) :: E) ds M F) : RL P r N ops (⟨some d, .binOp op t x y yt, ty, pos, aft, gd⟩ :: rest) Q E ds M F :=
  RL.val rfl hg hN (fun ρ hρ w _ => by
    have h1 := h.1 w
    have h2 := h.2 x y w
    simp [execOp, hρ _ _ hx, hρ _ _ hy, h1, h2]) k
end
theorem eqGuard_int {P : Program} {op : BinOp} {t : TypeId} {k k' : IntKind} {a b : Int} (ox oy : Operand) (w : World) : (eqGuard op t ox oy (.int k a) (.int k' b)).run P w = .ok () w := by
  unfold eqGuard; split <;> rfl
theorem eqGuard_str {P : Program} {op : BinOp} {t : TypeId} {a b : ByteArray} (ox oy : Operand) (w : World) : (eqGuard op t ox oy (.string a) (.string b)).run P w = .ok () w := by
  unfold eqGuard; split <;> rfl
theorem eqGuard_bool {P : Program} {op : BinOp} {t : TypeId} {a b : Bool} (ox oy : Operand) (w : World) : (eqGuard op t ox oy (.bool a) (.bool b)).run P w = .ok () w := by
  unfold eqGuard; split <;> rfl
theorem eqGuard_slice {P : Program} {op : BinOp} {t : TypeId} {a b : Option Addr} {l c l' c' : Nat} (ox oy : Operand) (w : World) : (eqGuard op t ox oy (.slice a l c) (.slice b l' c')).run P w = .ok () w := by
  unfold eqGuard; split <;> rfl
theorem eqGuard_ptr {P : Program} {op : BinOp} {t : TypeId} {a b : Option Addr} (ox oy : Operand) (w : World) : (eqGuard op t ox oy (.pointer a) (.pointer b)).run P w = .ok () w := by
  unfold eqGuard; split <;> rfl
theorem wrap64_id {n : Int} (h0 : -9223372036854775808 ≤ n) (h1 : n ≤ 9223372036854775807) : IntKind.i64.wrap n = n := by
  simp [IntKind.wrap, IntKind.bits, IntKind.signed]
  omega
section
variable {P : Program} {t : TypeId} {k : IntKind} {x y : Int}
theorem BinV.lss : BinV P .lss t (.int k x) (.int k y) (.bool (decide (x < y))) := ⟨fun w => by simp [binOp, Op.intCmp], fun _ _ _ => eqGuard_int _ _ _⟩
theorem BinV.leq : BinV P .leq t (.int k x) (.int k y) (.bool (decide (x ≤ y))) := ⟨fun w => by simp [binOp, Op.intCmp], fun _ _ _ => eqGuard_int _ _ _⟩
theorem BinV.gtr : BinV P .gtr t (.int k x) (.int k y) (.bool (decide (y < x))) := ⟨fun w => by simp [binOp, Op.intCmp], fun _ _ _ => eqGuard_int _ _ _⟩
theorem BinV.geq : BinV P .geq t (.int k x) (.int k y) (.bool (decide (y ≤ x))) := ⟨fun w => by simp [binOp, Op.intCmp], fun _ _ _ => eqGuard_int _ _ _⟩
theorem BinV.eql : BinV P .eql t (.int k x) (.int k y) (.bool (decide (x = y))) := ⟨fun w => by simp [binOp, Op.intCmp]; rfl, fun _ _ _ => eqGuard_int _ _ _⟩
theorem BinV.neq : BinV P .neq t (.int k x) (.int k y) (.bool (decide (x ≠ y))) := ⟨fun w => by
  by_cases h : x = y <;> simp [binOp, Op.intCmp, h], fun _ _ _ => eqGuard_int _ _ _⟩
theorem BinV.addW : BinV P .add t (.int k x) (.int k y) (.int k (k.wrap (x + y))) := ⟨fun w => by simp [binOp, Op.intArith], fun _ _ _ => eqGuard_int _ _ _⟩
theorem BinV.subW : BinV P .sub t (.int k x) (.int k y) (.int k (k.wrap (x - y))) := ⟨fun w => by simp [binOp, Op.intArith], fun _ _ _ => eqGuard_int _ _ _⟩
theorem BinV.mulW : BinV P .mul t (.int k x) (.int k y) (.int k (k.wrap (x * y))) := ⟨fun w => by simp [binOp, Op.intArith], fun _ _ _ => eqGuard_int _ _ _⟩
theorem BinV.add (z : Int) (h : x + y = z) (h0 : -9223372036854775808 ≤ z) (h1 : z ≤ 9223372036854775807) : BinV P .add t (.int .i64 x) (.int .i64 y) (.int .i64 z) := by
  have := BinV.addW (P := P) (t := t) (k := .i64) (x := x) (y := y); rwa [h, wrap64_id h0 h1] at this
theorem BinV.sub (z : Int) (h : x - y = z) (h0 : -9223372036854775808 ≤ z) (h1 : z ≤ 9223372036854775807) : BinV P .sub t (.int .i64 x) (.int .i64 y) (.int .i64 z) := by
  have := BinV.subW (P := P) (t := t) (k := .i64) (x := x) (y := y); rwa [h, wrap64_id h0 h1] at this
theorem BinV.mul (z : Int) (h : x * y = z) (h0 : -9223372036854775808 ≤ z) (h1 : z ≤ 9223372036854775807) : BinV P .mul t (.int .i64 x) (.int .i64 y) (.int .i64 z) := by
  have := BinV.mulW (P := P) (t := t) (k := .i64) (x := x) (y := y); rwa [h, wrap64_id h0 h1] at this
theorem BinV.quo (hy : y ≠ 0) (z : Int) (h : x.tdiv y = z) (h0 : -9223372036854775808 ≤ z) (h1 : z ≤ 9223372036854775807) : BinV P .quo t (.int .i64 x) (.int .i64 y) (.int .i64 z) :=
  ⟨fun w => by simp [binOp, Op.intDiv, hy, h, wrap64_id h0 h1], fun _ _ _ => eqGuard_int _ _ _⟩
theorem BinV.rem (hy : y ≠ 0) : BinV P .rem t (.int k x) (.int k y) (.int k (x.tmod y)) :=
  ⟨fun w => by simp [binOp, Op.intDiv, hy], fun _ _ _ => eqGuard_int _ _ _⟩
end
end Go.GL
