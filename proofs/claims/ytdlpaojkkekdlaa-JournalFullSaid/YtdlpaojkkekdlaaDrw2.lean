/- The rule for an open order in the form in which a program prints its uses; the library's Builder. No condition; over every program. -/
import Derived.Test.YtdlpaojkkekdlaaApp
namespace Go.GL
section
variable {P : Program} {r : Option Nat} {N : Nat} {ops : Array Oper} {Q : Exit → Act → World → Prop} {V : Env} {D : List Nat} {E : Env} {ds : List Deferred} {M : List HP} {F : List Fact}
theorem look_append {V W : Env} : ∀ {i : Nat} {v : Value}, look V i = some v → look (V ++ W) i = some v := by
  induction V with
  | nil => intro i v h; cases h
  | cons x V ih =>
    intro i v h
    obtain ⟨k, u⟩ := x
    simp only [List.cons_append, look] at h ⊢
    cases hb : Nat.beq k i with
    | true => rw [hb] at h; exact h
    | false => rw [hb] at h; exact ih h
theorem AR.more (W : Env) (h : AR P r N ops Q (V ++ W) D E ds M F) : AR P r N ops Q V D E ds M F := fun fuel S a w hI hw hl =>
  h fuel S a w ⟨hI.sat, fun i hi => by
    obtain ⟨h1, v, hv, hd⟩ := hI.vals i hi
    exact ⟨h1, v, look_append hv, hd⟩, hI.done, hI.nodup, hI.closed⟩ hw hl
theorem AR.part {t : Nat} {b : Bool} {V' : Env} (ht : b = true → AR P r N ops Q ((t, .bool true) :: V') D E ds M F) (hf : b = false → AR P r N ops Q ((t, .bool false) :: V') D E ds M F) : AR P r N ops Q ((t, .bool b) :: V') D E ds M F := by
  cases b
  · exact hf rfl
  · exact ht rfl
theorem AR.weak {M' : List HP} {F' : List Fact} (hs : ∀ w, St w M F → St w M' F') (h : AR P r N ops Q V D E ds M' F') : AR P r N ops Q V D E ds M F := fun fuel S a w hI hw hl => h fuel S a w hI (hs w hw) hl
theorem AR.openP {ι : Sort _} {p : ι → Prop} {M' : ι → List HP} {F' : ι → List Fact} (hk : ∀ w, St w M F → ∃ i, p i ∧ St w (M' i) (F' i)) (h : ∀ i, p i → AR P r N ops Q V D E ds (M' i) (F' i)) : AR P r N ops Q V D E ds M F := fun fuel S a w hI hw hl => by
  obtain ⟨i, hp, hi⟩ := hk w hw
  exact h i hp fuel S a w hI hi hl
theorem PV.cast {o : Oper} {v v' : Value} (e : v = v') (h : PV P E M F o v) : PV P E M F o v' := e ▸ h
def QOne (P : Program) (ops : Array Oper) (V E : Env) (M : List HP) (F : List Fact) (i : Nat) : Prop :=
  ∃ o v, ops[i]? = some o ∧ look V i = some v ∧ ((wantedG ops (envD ops V (depsOf ops i) ++ E) o.guard = some true ∧ PV P (envD ops V (depsOf ops i) ++ E) M F o v) ∨ (wantedG ops (envD ops V (depsOf ops i) ++ E) o.guard = some false ∧ v = undef))
def QAll (P : Program) (ops : Array Oper) (V E : Env) (M : List HP) (F : List Fact) : List Nat → Prop
  | [] => True
  | i :: is => QOne P ops V E M F i ∧ QAll P ops V E M F is
theorem QAll.get {is : List Nat} (h : QAll P ops V E M F is) : ∀ i, i ∈ is → QOne P ops V E M F i := by
  induction is with
  | nil => intro i hi; cases hi
  | cons j js ih =>
    intro i hi
    rcases List.mem_cons.1 hi with e | e
    · exact e ▸ h.1
    · exact ih h.2 i e
theorem QOne.yes {i : Nat} {o : Oper} {v : Value} (ho : ops[i]? = some o) (hv : look V i = some v) (hg : wantedG ops (envD ops V (depsOf ops i) ++ E) o.guard = some true) (h : PV P (envD ops V (depsOf ops i) ++ E) M F o v) : QOne P ops V E M F i := ⟨o, v, ho, hv, .inl ⟨hg, h⟩⟩
theorem QOne.no {i : Nat} {o : Oper} (ho : ops[i]? = some o) (hv : look V i = some undef) (hg : wantedG ops (envD ops V (depsOf ops i) ++ E) o.guard = some false) : QOne P ops V E M F i := ⟨o, undef, ho, hv, .inr ⟨hg, rfl⟩⟩
/-- one phase, then the operation e -/
theorem AR.eff (qs : List Nat) (e : Nat) (ord : List Nat) {o : Oper} {ι : Type} {val : ι → Value} {M' : ι → List HP} {F' : ι → List Fact} (hq : QAll P ops V E M F qs)
    (hord : orderOk ops ord [] = true) (hslots : slotsOk ops E N = true) (hcov : covers ops V D qs [e] = true) (ho : ops[e]? = some o) (hlt : Nat.ble (e + 1) ops.size = true) (hV : look V e = none) (hg : wantedG ops (envD ops V (depsOf ops e) ++ E) o.guard = some true)
    (hev : EV P r Q (envD ops V (depsOf ops e) ++ E) M F o ι val M' F') (k : ∀ x, AR P r N ops Q ((e, val x) :: V) (e :: D) E ds (M' x) (F' x)) : AR P r N ops Q V D E ds M F :=
  AR.phase qs [e] ord hord hslots hcov hq.get (fun i hi => by
    rcases List.mem_cons.1 hi with e' | e'
    · subst e'; exact ⟨hV, o, ι, val, M', F', ho, hg, hev, k⟩
    · cases e') (.inl ⟨e, Nat.le_of_ble_eq_true hlt, hV⟩)
/-- the last phase -/
theorem AR.last (qs : List Nat) (ord : List Nat) (hq : QAll P ops V E M F qs) (hord : orderOk ops ord [] = true) (hslots : slotsOk ops E N = true) (hcov : covers ops V D qs [] = true)
    (hend : NX N .normal Q (envD ops V (List.range ops.size) ++ E) ds M F) : AR P r N ops Q V D E ds M F :=
  AR.phase qs [] ord hord hslots hcov hq.get (fun i hi => by cases hi) (.inr hend)

/-! ### More rules on one operation, for whole-state use -/
theorem EV.store1 {t bt : TypeId} {x y : Operand} {b off : Nat} {cs : List Value} {v : Value} {ty : TypeId} {pos : String} {aft : Array Edge} {gd : Option (Nat × Bool)} (i : Nat) (ht : tyScalar P t = true) (hx : evalO E x = some (.pointer (some ⟨b, off, none⟩))) (hy : evalO E y = some v) (hi : M[i]? = some (Box b bt cs)) (ho : Nat.ble (off + 1) cs.length = true) (h1 : v.oneCell' = true) :
    EV P r Q E M F ⟨none, .store t x y, ty, pos, aft, gd⟩ Unit (fun _ => undef) (fun _ => M.set i (Box b bt (cs.set off v))) (fun _ => F) :=
  EV.of_eff rfl fun ρ hρ w hw => by
    have hb := hw.heap hi
    exact ⟨_, by simp [execOp, hρ _ _ hx, hρ _ _ hy, Instr.storeAt, Instr.sureAddr, run_storeVar_scalar ht hb (Nat.le_of_ble_eq_true ho) h1], hw.setCell hi off v⟩
theorem EV.storeA {t bt : TypeId} {x y : Operand} {b : Nat} {cs vs : List Value} {ty : TypeId} {pos : String} {aft : Array Edge} {gd : Option (Nat × Bool)} (i : Nat) (hx : evalO E x = some (.pointer (some ⟨b, 0, none⟩))) (hy : evalO E y = some (.agg vs.toArray)) (hi : M[i]? = some (Box b bt cs)) (ht : tySize P t vs.length = true) (hl : Nat.beq cs.length vs.length = true) (h1 : vs.all Value.oneCell' = true) :
    EV P r Q E M F ⟨none, .store t x y, ty, pos, aft, gd⟩ Unit (fun _ => undef) (fun _ => M.set i (Box b bt vs)) (fun _ => F) :=
  EV.of_eff rfl fun ρ hρ w hw => by
    have hb := hw.heap hi
    have hl' := Nat.eq_of_beq_eq_true hl
    have hst := run_storeCells_at P b 0 bt vs 0 cs.toArray w hb (by simp; omega) (fun v hv => List.all_eq_true.1 h1 v hv)
    refine ⟨w.setRow b vs.toArray, ?_, hw.setRow hi⟩
    have e : (List.take (0 + 0) cs ++ vs ++ List.drop (0 + 0 + vs.length) cs).toArray = vs.toArray := by
      rw [List.drop_of_length_le (by omega)]; simp
    simp only [e] at hst
    simp [execOp, hρ _ _ hx, hρ _ _ hy, Instr.storeAt, Instr.sureAddr, storeVar, run_sizeOf' ht, Value.cells, hst]
theorem EV.allocA {d : Nat} {t : TypeId} {cs : List Value} {ty : TypeId} {pos : String} {aft : Array Edge} {gd : Option (Nat × Bool)} (hz : ∀ w, (zeroValue t).run P w = .ok (.agg cs.toArray) w) : EV P r Q E M F ⟨some d, .alloc t, ty, pos, aft, gd⟩ Nat (fun b => .pointer (some ⟨b, 0, none⟩)) (fun b => Box b t cs :: M) (fun _ => F) :=
  EV.of_gen rfl fun ρ hρ w hw => ⟨w.heap.size, _, by simp [execOp, Instr.alloc, hz, newVar, newRow, Value.cells], hw.alloc _⟩
theorem EV.alloc1 {d : Nat} {t : TypeId} {z : Value} {ty : TypeId} {pos : String} {aft : Array Edge} {gd : Option (Nat × Bool)} (hz : ∀ w, (zeroValue t).run P w = .ok z w) (h1 : z.oneCell' = true) : EV P r Q E M F ⟨some d, .alloc t, ty, pos, aft, gd⟩ Nat (fun b => .pointer (some ⟨b, 0, none⟩)) (fun b => Box b t [z] :: M) (fun _ => F) :=
  EV.of_gen rfl fun ρ hρ w hw => by
    have hv : z.cells = #[z] := by cases z <;> first | rfl | simp [Value.oneCell'] at h1
    exact ⟨w.heap.size, _, by simp [execOp, Instr.alloc, hz, newVar, newRow, hv], hw.alloc _⟩
theorem EV.buildSlice {d T e len : Nat} {ps : List (Nat × Operand)} {vs : List (Nat × Value)} {cs : List Value} {ty : TypeId} {pos : String} {aft : Array Edge} {gd : Option (Nat × Bool)} (hp : evalParts E ps = some vs) (hb : BuildSV P T e len vs cs) : EV P r Q E M F ⟨some d, .buildSlice T len ps.toArray, ty, pos, aft, gd⟩ Nat (fun b => .slice (some ⟨b, 0, none⟩) len len) (fun b => Box b e cs :: M) (fun _ => F) :=
  EV.of_gen rfl fun ρ hρ w hw => ⟨w.heap.size, _, by simp [execOp, evalParts_map hρ hp, hb w], hw.alloc _⟩
end
end Go.GL
namespace Go.GL
theorem NX.sub {N : Nat} {e : Exit} {Q : Exit → Act → World → Prop} {E E' : Env} {ds : List Deferred} {M : List HP} {F : List Fact} (hs : SubE E E') (h : NX N e Q E' ds M F) : NX N e Q E ds M F := fun a w ha hw => h a w (ha.sub hs) hw
end Go.GL
namespace Go.GL
/-- of what an operation that is done comes behind, all is done -/
def doneOk (ops : Array Oper) : List Nat → List Nat → Bool
  | _, [] => true
  | D, j :: js => D.any (fun i => (depsOf ops i).contains j) && doneOk ops (j :: D) js
def addD : List Nat → List Nat → List Nat
  | D, [] => D
  | D, j :: js => addD (j :: D) js
theorem AR.done {P : Program} {r : Option Nat} {N : Nat} {ops : Array Oper} {Q : Exit → Act → World → Prop} {V : Env} {E : Env} {ds : List Deferred} {M : List HP} {F : List Fact} : ∀ {D : List Nat} (js : List Nat), doneOk ops D js = true → AR P r N ops Q V (addD D js) E ds M F → AR P r N ops Q V D E ds M F
  | D, [], _, h => h
  | D, j :: js, hd, h => fun fuel S a w hI hw hl => by
    simp only [doneOk, Bool.and_eq_true] at hd
    refine AR.done js hd.2 h fuel S a w ⟨hI.sat, hI.vals, fun i hi => ?_, hI.nodup, hI.closed⟩ hw hl
    rcases List.mem_cons.1 hi with e | e
    · subst e
      obtain ⟨k, hk, hc⟩ := List.any_eq_true.1 hd.1
      exact hI.closed k (hI.done k hk) i (by simpa using hc)
    · exact hI.done i e
end Go.GL
namespace Go.GL
section
variable {P : Program} {r : Option Nat} {N : Nat} {ops : Array Oper} {Q : Exit → Act → World → Prop} {V : Env} {D : List Nat} {E : Env} {ds : List Deferred} {M : List HP} {F : List Fact}
def EOne (P : Program) (r : Option Nat) (N : Nat) (ops : Array Oper) (Q : Exit → Act → World → Prop) (V : Env) (D : List Nat) (E : Env) (ds : List Deferred) (M : List HP) (F : List Fact) (i : Nat) : Prop :=
  look V i = none ∧ ∃ (o : Oper) (ι : Type) (val : ι → Value) (M' : ι → List HP) (F' : ι → List Fact), ops[i]? = some o ∧ wantedG ops (envD ops V (depsOf ops i) ++ E) o.guard = some true ∧
      EV P r Q (envD ops V (depsOf ops i) ++ E) M F o ι val M' F' ∧ ∀ x, AR P r N ops Q ((i, val x) :: V) (i :: D) E ds (M' x) (F' x)
def EAll (P : Program) (r : Option Nat) (N : Nat) (ops : Array Oper) (Q : Exit → Act → World → Prop) (V : Env) (D : List Nat) (E : Env) (ds : List Deferred) (M : List HP) (F : List Fact) : List Nat → Prop
  | [] => True
  | i :: is => EOne P r N ops Q V D E ds M F i ∧ EAll P r N ops Q V D E ds M F is
theorem EAll.get {is : List Nat} (h : EAll P r N ops Q V D E ds M F is) : ∀ i, i ∈ is → EOne P r N ops Q V D E ds M F i := by
  induction is with
  | nil => intro i hi; cases hi
  | cons j js ih =>
    intro i hi
    rcases List.mem_cons.1 hi with e | e
    · exact e ▸ h.1
    · exact ih h.2 i e
theorem EOne.of {i : Nat} {o : Oper} {ι : Type} {val : ι → Value} {M' : ι → List HP} {F' : ι → List Fact} (hV : look V i = none) (ho : ops[i]? = some o) (hg : wantedG ops (envD ops V (depsOf ops i) ++ E) o.guard = some true)
    (hev : EV P r Q (envD ops V (depsOf ops i) ++ E) M F o ι val M' F') (k : ∀ x, AR P r N ops Q ((i, val x) :: V) (i :: D) E ds (M' x) (F' x)) : EOne P r N ops Q V D E ds M F i := ⟨hV, o, ι, val, M', F', ho, hg, hev, k⟩
/-- one phase, then whichever of the operations comes first -/
theorem AR.effs (qs effs : List Nat) (ord : List Nat) (hq : QAll P ops V E M F qs) (hord : orderOk ops ord [] = true) (hslots : slotsOk ops E N = true) (hcov : covers ops V D qs effs = true)
    (hlt : (match effs with | [] => false | e :: _ => Nat.ble (e + 1) ops.size) = true) (h : EAll P r N ops Q V D E ds M F effs) : AR P r N ops Q V D E ds M F :=
  AR.phase qs effs ord hord hslots hcov hq.get h.get (.inl (by
    cases effs with
    | nil => cases hlt
    | cons e es => exact ⟨e, Nat.le_of_ble_eq_true hlt, h.1.1⟩))
end
end Go.GL
