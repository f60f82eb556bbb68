/- A deferred closure that runs when the function returns. No condition; over every program. -/
import Derived.Test.YtdlpaojkkekdlaaApp
import Derived.DefersIn
namespace Go.GL
set_option linter.unusedVariables false
/-- the contract of a function that runs as a deferred call -/
def CtrD (P : Program) (f : FuncId) (args : List Value) (M : List HP) (F : List Fact) (ι : Type) (M' : ι → List HP) (F' : ι → List Fact) : Prop :=
  ∀ (u : FrameMode) (w : World), St w M F → CallsDIn (Wd none) 0 P f args.toArray u w fun e u' w' => u' = u ∧ Post (fun _ : ι => .tuple #[]) M' F' e w'
theorem CtrD.body {P : Program} {f : FuncId} {fn : Func} {c : Code} {args : List Value} {M : List HP} {F : List Fact} {ι : Type} {M' : ι → List HP} {F' : ι → List Fact} {N : Nat}
    (hf : P.funcs[f]? = some fn) (hb : fn.body = some c) (hN : fn.ntmps = N) (h : TR P none N c (bodyPost P fn (Post (fun _ : ι => .tuple #[]) M' F')) (envOf 0 args) [] M F) : CtrD P f args M F ι M' F' := fun u w hw => by
  refine callsDIn_of_wp hf hb trivial (h _ w ?_ hw)
  subst hN
  refine ⟨by simp; omega, rfl, fun k v hk => ?_⟩
  obtain ⟨_, h2⟩ := look_envOf args 0 k v hk
  have hlt : k < args.length := (List.getElem?_eq_some_iff.1 h2).1
  rw [Array.getElem?_append_left (by simpa using hlt)]
  simpa using h2
theorem Ctr.bodyD {P : Program} {f : FuncId} {fn : Func} {c : Code} {args : List Value} {M : List HP} {F : List Fact} {ι : Type} {val : ι → Value} {M' : ι → List HP} {F' : ι → List Fact} {N : Nat}
    (hf : P.funcs[f]? = some fn) (hb : fn.body = some c) (hN : fn.ntmps = N) (h : TR P none N c (bodyPostDIn (Wd none) 0 P fn (Post val M' F')) (envOf 0 args) [] M F) : Ctr P f args M F ι val M' F' := fun w hw => by
  refine callsIn_of_wp_defers hf hb trivial (h _ w ?_ hw)
  subst hN
  refine ⟨by simp; omega, rfl, fun k v hk => ?_⟩
  obtain ⟨_, h2⟩ := look_envOf args 0 k v hk
  have hlt : k < args.length := (List.getElem?_eq_some_iff.1 h2).1
  rw [Array.getElem?_append_left (by simpa using hlt)]
  simpa using h2
section
variable {P : Program} {r : Option Nat} {N : Nat} {ops : Array Oper} {rest : List Oper} {Q : Exit → Act → World → Prop} {E : Env} {ds : List Deferred} {M : List HP} {F : List Fact}
variable {ty : TypeId} {pos : String} {aft : Array Edge} {gd : Option (Nat × Bool)}
theorem RL.defer {cal : Operand} {as : List Operand} {ats : Array TypeId} {vs fst cap : List Value} {f : FuncId} (hg : wantedG ops E gd = some true) (hc : evalO E cal = some (.func (.func f) fst.toArray cap.toArray)) (ha : evalArgs E as = some vs)
    (k : RL P none N ops rest Q E ({ target := .fn (.func f) cap.toArray, args := (fst ++ vs).toArray } :: ds) M F) : RL P none N ops (⟨none, .defer ⟨.value cal, as.toArray, ats⟩, ty, pos, aft, gd⟩ :: rest) Q E ds M F := fun a w hs hw => by
  unfold wpListIn
  rw [hs.wanted hg, if_pos rfl]
  refine ⟨fun _ _ => trivial, ?_⟩
  have e1 : (Oper.semAt (Wd none).round a.eval ⟨none, .defer ⟨.value cal, as.toArray, ats⟩, ty, pos, aft, gd⟩).run P w = .ok (.defer { target := .fn (.func f) cap.toArray, args := (fst ++ vs).toArray }) w := by
    rw [show (Wd none).round = none from rfl, Oper.semAt_none]
    simp [execOp, resolve, hs.eval hc, hs.args ha, Deferred.ofValue]
  rw [e1]
  exact k _ w ⟨hs.size, by show _ :: a.defers = _; rw [hs.defers], hs.get⟩ hw
/-- a return with one deferred call, the result in a cell -/
theorem NX.retD {fn : Func} {f : FuncId} {cap dargs : List Value} {t T b i : Nat} {ι κ : Type} {val : ι → Value} {M' : ι → List HP} {F' : ι → List Fact} {M1 : κ → List HP} {F1 : κ → List Fact} {v : κ → Value} {bt : Nat}
    (hr : fn.results = #[.cell t T]) (ht : look E t = some (.pointer (some ⟨b, 0, none⟩))) (hT : tyScalar P T = true) (hcall : ∀ args w, (callFunc f args).run P w = .ok (.enter f args) w) (h : CtrD P f (dargs ++ cap) M F κ M1 F1)
    (hi : ∀ k, (M1 k)[i]? = some (Box b bt [v k])) (g : κ → ι) (hv : ∀ k, v k = val (g k)) (hS : ∀ k w, St w (M1 k) (F1 k) → St w (M' (g k)) (F' (g k))) :
    NX N .ret (bodyPostDIn (Wd none) 0 P fn (Post val M' F')) E [{ target := .fn (.func f) cap.toArray, args := dargs.toArray }] M F := fun a w ha hw => by
  show LeavesIn _ _ _ _ _ _ a.defers .returning w
  rw [ha.defers]
  refine leavesIn_cons (by simp) (by simp [Wd]) (f := f) (args := (dargs ++ cap).toArray) (by simp [invoke, hcall]) (fun _ _ => trivial) ?_
  refine (h .returning w hw).mono ?_
  rintro e u' w' ⟨rfl, k, rfl, hst⟩
  have hb := hst.heap (hi k)
  have h1 : (loadVar T ⟨b, 0, none⟩).run P w' = .ok (v k) w' := run_loadVar_scalar hT (by rw [cell_of_box hb]; rfl)
  refine ⟨v k, ?_, g k, by rw [hv], hS k w' hst⟩
  unfold results
  rw [hr]
  have h2 := ha.get t _ ht
  simp [h2, asAddr, h1]
/-- a return with nothing deferred, the result in a cell -/
theorem NX.retCD {fn : Func} {t T b i : Nat} {ι : Type} {val : ι → Value} {M' : ι → List HP} {F' : ι → List Fact} {v : Value} {bt : Nat} (j : ι)
    (hr : fn.results = #[.cell t T]) (ht : look E t = some (.pointer (some ⟨b, 0, none⟩))) (hT : tyScalar P T = true) (hi : M[i]? = some (Box b bt [v])) (hv : v = val j) (hS : ∀ w, St w M F → St w (M' j) (F' j)) :
    NX N .ret (bodyPostDIn (Wd none) 0 P fn (Post val M' F')) E [] M F := fun a w ha hw => by
  show LeavesIn _ _ _ _ _ _ a.defers .returning w
  rw [ha.defers]
  have hb := hw.heap hi
  have h1 : (loadVar T ⟨b, 0, none⟩).run P w = .ok v w := run_loadVar_scalar hT (by rw [cell_of_box hb]; rfl)
  refine ⟨v, ?_, j, by rw [hv], hS w hw⟩
  unfold results
  rw [hr]
  have h2 := ha.get t _ ht
  simp [h2, asAddr, h1]
end
end Go.GL
