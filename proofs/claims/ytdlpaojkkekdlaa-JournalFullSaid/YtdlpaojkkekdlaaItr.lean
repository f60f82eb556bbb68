/- A range over a function whose yields hand over what is owned. No condition; over every program. -/
import Derived.Test.YtdlpaojkkekdlaaIter
namespace Go.GL
set_option linter.unusedVariables false
/-- what an iterator says that hands over, with each thing it yields, what is owned of it -/
def IterO (P : Program) (gf : FuncId) (cap : List Value) {α : Type} (enc : α → List Value → Prop) (own : α → List Value → List HP) (xs : List α) (F : List Fact) : Prop :=
  ∀ (l : Nat) (J : List α → List HP),
    (∀ pre x suf args, xs = pre ++ x :: suf → enc x args → ∀ Mi G, (∀ φ, φ ∈ F → φ ∈ G) → YSpec P l args ((own x args ++ J pre) ++ Mi) G (J (pre ++ [x]) ++ Mi)) →
    ∀ Mi G, (∀ φ, φ ∈ F → φ ∈ G) → Ctr P gf (.func (.yield l) #[] #[] :: cap) (J [] ++ Mi) G Unit (fun _ => .tuple #[]) (fun _ => J xs ++ Mi) (fun _ => G)
section
variable {P : Program} {r : Option Nat} {N : Nat} {ops : Array Oper} {rest : List Oper} {Q : Exit → Act → World → Prop} {E : Env} {ds : List Deferred} {M : List HP} {F : List Fact}
/-- A LOOP OVER A FUNCTION whose body never leaves it. -/
theorem TR.rangeFuncO {α : Type} {g : Operand} {ps : List Nat} {assign body : Code} {gf : FuncId} {cap : List Value} {enc : α → List Value → Prop} {xs : List α} {κ : Type}
    (hg : evalO E g = some (.func (.func gf) #[] cap.toArray)) (hcall : ∀ args w, (callFunc gf args).run P w = .ok (.enter gf args) w) (hps : ∀ p, p ∈ ps → Nat.ble (p + 1) N = true) (hlen : ∀ x args, enc x args → args.length = ps.length)
    {own : α → List Value → List HP} (hit : IterO P gf cap enc own xs F) (J : List α → List HP) (Mr : List HP) (hJ : ∀ w, St w M F → St w (J [] ++ Mr) F)
    (E1 : List α → α → List Value → κ → Env) (M1 : List α → α → List Value → κ → List HP)
    (hassign : ∀ l pre x suf args, xs = pre ++ x :: suf → enc x args → ∀ Mi G, (∀ φ, φ ∈ F → φ ∈ G) →
      TR P (some l) N assign (Exit.then (fun a w => ∃ i, Sat N (E1 pre x args i) [] a ∧ St w (M1 pre x args i ++ Mi) G) (fun _ _ _ => False)) (envAt ps args E) [] ((own x args ++ J pre) ++ Mi) G)
    (hbody : ∀ l pre x suf args i, xs = pre ++ x :: suf → enc x args → ∀ Mi G, (∀ φ, φ ∈ F → φ ∈ G) →
      TR P (some l) N body (RoundQ (J (pre ++ [x]) ++ Mi) G) (E1 pre x args i) [] (M1 pre x args i ++ Mi) G)
    (k : ∀ D, NX N .normal Q E ({ target := .collected D, args := #[] } :: ds) (Pts D (.deferred (some [])) :: (J xs ++ Mr)) F) :
    TR P none N (.rangeFunc g ps.toArray assign body) Q E ds M F := by
  intro a w ha hw
  refine wpIn_rangeFunc fun fn _ => ?_
  obtain ⟨rec, hrec⟩ : ∃ rec : LoopState → Option Code → Loop, rec = fun st pe => { state := st, pending := pe, fn, tmps := a.tmps, params := ps.toArray, assign, body, defers := w.heap.size } := ⟨_, rfl⟩
  obtain ⟨W1, hW1⟩ : ∃ W1, W1 = (w.alloc (.deferred (some []))).alloc (.loop (rec .ready none)) := ⟨_, rfl⟩
  have h1 : St W1 (Pts (w.heap.size + 1) (.loop (rec .ready none)) :: Pts w.heap.size (.deferred (some [])) :: (J [] ++ Mr)) F := by
    have := ((hJ w hw).alloc (.deferred (some []))).alloc (.loop (rec .ready none))
    rw [World.size_alloc] at this
    rw [hW1]
    exact this
  refine ⟨w.heap.size + 1, [{ target := .collected w.heap.size, args := #[] }], W1, { target := .fn (.func gf) cap.toArray, args := #[.func (.yield (w.heap.size + 1)) #[] #[]] }, W1, gf,
    (.func (.yield (w.heap.size + 1)) #[] #[] :: cap).toArray, W1, ?_, ?_, fun _ _ => trivial, ?_, fun h => by simp at h, ?_⟩
  · rw [hW1, hrec]; exact run_enterLoop_outer _ _ _ _ _
  · have e0 := ha.eval hg
    have e1 : a.eval (.const (.func (.yield (w.heap.size + 1)) #[] #[])) = .func (.yield (w.heap.size + 1)) #[] #[] := rfl
    simp only [resolve, e0, Deferred.ofValue]
    simp [e1]
  · simp [invoke, hcall]
  · have hJ' := hit (w.heap.size + 1) (fun pre => Pts (w.heap.size + 1) (.loop (rec .ready none)) :: J pre) ?_ (Pts w.heap.size (.deferred (some [])) :: Mr) F (fun _ h => h)
    · have hp : ∀ (r : HP) (L : List HP), (r :: Pts w.heap.size (.deferred (some [])) :: (L ++ Mr)).Perm ((r :: L) ++ (Pts w.heap.size (.deferred (some [])) :: Mr)) := fun r L => (List.perm_middle.symm).cons r
      obtain ⟨hF, hc⟩ := hJ' _ (h1.perm (hp _ _))
      refine ⟨hF, fun cs hr => ?_⟩
      obtain ⟨e, w', fr, ⟨_, he, hst⟩, rest'⟩ := hc cs hr
      subst he
      refine ⟨_, w', fr, ?_, rest'⟩
      have hst' := hst.perm (hp _ _).symm
      have hl := hst'.heap (i := 0) rfl
      refine ⟨none, _, by have := run_endLoop (P := P) hl (by rw [hrec]; simp); rw [hrec] at this; exact this, ?_⟩
      exact k w.heap.size _ _ (ha.ends _) ((hst'.putObj (i := 0) rfl).tail) |> fun h => by rw [ha.defers]; exact h
    · intro pre x suf args hx he Mi G hG W hW
      have hW : St W (Pts (w.heap.size + 1) (.loop (rec .ready none)) :: ((own x args ++ J pre) ++ Mi)) G := hW.perm (List.Perm.append_right Mi (List.perm_middle (l₁ := own x args) (a := Pts (w.heap.size + 1) (.loop (rec .ready none))) (l₂ := J pre)))
      have hl := hW.heap (i := 0) rfl
      have hy := run_yield (P := P) (args := args.toArray) hl (by rw [hrec]; simp [hlen x args he])
      rw [hrec] at hy
      refine ⟨fn, _, assign, body, hy, roundIn_of_wpIn (F := Wd none) trivial ?_⟩
      have hS : Sat N (envAt ps args E) [] ⟨(ps.zip args).foldl (fun t (p, v) => t.setIfInBounds p v) a.tmps, []⟩ := Sat.params ps args (ha.ends []) hps
      have hz : ((ps.toArray.zip args.toArray).foldl (fun tmps (t, a) => tmps.setIfInBounds t a) a.tmps) = (ps.zip args).foldl (fun t (p, v) => t.setIfInBounds p v) a.tmps := by simp
      have hper : ∀ (r : HP) (L L' : List HP), (r :: (L ++ L')).Perm (L ++ (r :: L')) := fun r L L' => List.perm_middle.symm
      refine wpIn_mono (hassign (w.heap.size + 1) pre x suf args hx he (Pts (w.heap.size + 1) (.loop (rec .ready none)) :: Mi) G hG _ W (by simp only; rw [hz]; exact hS) (hW.perm (hper _ _ _))) ?_
      intro e a1 w1 hq
      cases e with
      | normal =>
        obtain ⟨i, hs1, hw1⟩ := hq
        have hw1' := hw1.perm (hper _ _ _).symm
        have hl1 := hw1'.heap (i := 0) rfl
        refine ⟨_, run_beginRound hl1 (by rw [hrec]), ?_⟩
        have hw2 := (hw1'.putObj (o' := .loop { rec .ready none with state := .busy }) (i := 0) rfl)
        refine wpIn_mono (hbody (w.heap.size + 1) pre x suf args i hx he (Pts (w.heap.size + 1) (.loop { rec .ready none with state := .busy }) :: Mi) G hG a1 _ hs1 (hw2.perm (hper _ _ _))) ?_
        intro e a3 w3 hq3
        cases e with
        | normal =>
          have hw3 : St w3 (J (pre ++ [x]) ++ (Pts (w.heap.size + 1) (.loop { rec .ready none with state := .busy }) :: Mi)) G := hq3
          have hw3' := hw3.perm (hper _ _ _).symm
          have hl3 := hw3'.heap (i := 0) rfl
          refine ⟨_, _, run_endRound none hl3, (), rfl, ?_⟩
          have := hw3'.putObj (o' := .loop { rec .ready none with state := .ready }) (i := 0) rfl
          rw [hrec] at this ⊢
          exact this
        | _ => exact hq3.elim
      | _ => exact hq.elim
end
end Go.GL
