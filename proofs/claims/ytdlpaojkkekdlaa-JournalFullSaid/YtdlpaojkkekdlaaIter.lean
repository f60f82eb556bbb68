/- The rules of the walk for a range over a function: what an iterator promises, a loop over it, a call of yield, the way out. No condition; over every program. -/
import Derived.Test.YtdlpaojkkekdlaaOps
import Derived.RangeFuncRecord
namespace Go.GL

/-- what a call of yield says -/
def YSpec (P : Program) (l : Nat) (args : List Value) (M : List HP) (F : List Fact) (M' : List HP) : Prop :=
  ∀ w, St w M F → ∃ fn tmps assign body, (Instr.yield l args.toArray).run P w = .ok (.round l fn tmps assign body) w ∧
    RoundIn (Wd none) 0 P l fn tmps assign body w (Post (ι := Unit) (fun _ => .bool true) (fun _ => M') (fun _ => F))
theorem YSpec.frame {P : Program} {l : Nat} {args : List Value} {G : List Fact} (L : List HP) {J J' Mi : List HP} (h : YSpec P l args (J ++ (L ++ Mi)) G (J' ++ (L ++ Mi))) : YSpec P l args (L ++ (J ++ Mi)) G (L ++ (J' ++ Mi)) := fun w hw => by
  obtain ⟨fn, tmps, assign, body, hy, hR⟩ := h w (hw.perm (perm_mid _ _ _))
  refine ⟨fn, tmps, assign, body, hy, hR.mono fun e w' hp => ?_⟩
  obtain ⟨i, he, hs⟩ := hp
  exact ⟨i, he, hs.perm (perm_mid _ _ _).symm⟩
/-- what an iterator says: it yields 'xs', one behind the other, to whoever goes on -/
def IterC (P : Program) (gf : FuncId) (cap : List Value) {α : Type} (enc : α → List Value → Prop) (xs : List α) (F : List Fact) : Prop :=
  ∀ (l : Nat) (J : List α → List HP),
    (∀ pre x suf args, xs = pre ++ x :: suf → enc x args → ∀ Mi G, (∀ φ, φ ∈ F → φ ∈ G) → YSpec P l args (J pre ++ Mi) G (J (pre ++ [x]) ++ Mi)) →
    ∀ Mi G, (∀ φ, φ ∈ F → φ ∈ G) → Ctr P gf (.func (.yield l) #[] #[] :: cap) (J [] ++ Mi) G Unit (fun _ => .tuple #[]) (fun _ => J xs ++ Mi) (fun _ => G)
def RoundQ (M : List HP) (G : List Fact) : Exit → Act → World → Prop
  | .normal, _, w => St w M G
  | _, _, _ => False
def envAt : List Nat → List Value → Env → Env
  | p :: ps, v :: vs, E => envAt ps vs ((p, v) :: E)
  | _, _, E => E

section
variable {P : Program} {r : Option Nat} {N : Nat} {ops : Array Oper} {rest : List Oper} {Q : Exit → Act → World → Prop} {E : Env} {ds : List Deferred} {M : List HP} {F : List Fact}
variable {d : Nat} {ty : TypeId} {pos : String} {aft : Array Edge} {gd : Option (Nat × Bool)}
theorem RL.callYield {cal : Operand} {as : List Operand} {ats : Array TypeId} {vs : List Value} {l : Nat} {M' : List HP}
    (hg : wantedG ops E gd = some true) (hc : evalO E cal = some (.func (.yield l) #[] #[])) (ha : evalArgs E as = some vs) (hN : Nat.ble (d + 1) N = true)
    (h : YSpec P l vs M F M') (k : RL P r N ops rest Q ((d, .bool true) :: E) ds M' F) :
    RL P r N ops (⟨some d, .call ⟨.value cal, as.toArray, ats⟩, ty, pos, aft, gd⟩ :: rest) Q E ds M F := by
  refine RL.step rfl hg fun a w hs hw => ?_
  obtain ⟨fn, tmps, assign, body, hy, hR⟩ := h w hw
  have e1 : (execOp a.eval ⟨some d, .call ⟨.value cal, as.toArray, ats⟩, ty, pos, aft, gd⟩).run P w = .ok (.round l fn tmps assign body) w := by
    simp [execOp, resolve, hs.eval hc, hs.args ha, Deferred.ofValue, invoke, hy]
  rw [e1]
  refine ⟨fun h => by simp at h, hR.1, fun c cs hr => ?_⟩
  obtain ⟨e, w', ⟨i, he, hst⟩, rest'⟩ := hR.2 c cs hr
  subst he
  exact ⟨.returned (.bool true), w', k _ w' (hs.put hN _) hst, rest'⟩

theorem Sat.ends {a : Act} (h : Sat N E ds a) (ds' : List Deferred) : Sat N E ds' { a with defers := ds' } := ⟨h.size, rfl, h.get⟩
theorem Sat.params : ∀ (ps : List Nat) (vs : List Value) {E : Env} {t : Array Value}, Sat N E [] ⟨t, []⟩ → (∀ p, p ∈ ps → Nat.ble (p + 1) N = true) → Sat N (envAt ps vs E) [] ⟨(ps.zip vs).foldl (fun t (p, v) => t.setIfInBounds p v) t, []⟩
  | [], _, _, _, h, _ => by simpa [envAt] using h
  | p :: ps, [], _, _, h, _ => by simpa [envAt] using h
  | p :: ps, v :: vs, _, t, h, hp => by
    have h1 := h.put (hp p (by simp)) v
    exact Sat.params ps vs h1 (fun q hq => hp q (by simp [hq]))

theorem St.putObj {w : World} {b : Nat} {o o' : Obj} {i : Nat} (h : St w M F) (hi : M[i]? = some (Pts b o)) : St (w.putObj b o') (M.set i (Pts b o')) F := by
  have hb := h.heap hi
  exact h.putHeap hi rfl rfl rfl (by simp) (World.putObj_heap_same (Array.getElem?_eq_some_iff.1 hb).1) fun c hc => World.putObj_heap_other hc
theorem Sat.act {a : Act} (h : Sat N E [] a) : a = ⟨a.tmps, []⟩ := by
  cases a with
  | mk t d => have := h.defers; simp only at this; subst this; rfl

/-- A LOOP OVER A FUNCTION whose body never leaves it. -/
theorem TR.rangeFunc {α : Type} {g : Operand} {ps : List Nat} {assign body : Code} {gf : FuncId} {cap : List Value} {enc : α → List Value → Prop} {xs : List α} {κ : Type}
    (hg : evalO E g = some (.func (.func gf) #[] cap.toArray)) (hcall : ∀ args w, (callFunc gf args).run P w = .ok (.enter gf args) w) (hps : ∀ p, p ∈ ps → Nat.ble (p + 1) N = true) (hlen : ∀ x args, enc x args → args.length = ps.length)
    (hit : IterC P gf cap enc xs F) (J : List α → List HP) (Mr : List HP) (hJ : ∀ w, St w M F → St w (J [] ++ Mr) F)
    (E1 : List α → α → List Value → κ → Env) (M1 : List α → α → List Value → κ → List HP)
    (hassign : ∀ l pre x suf args, xs = pre ++ x :: suf → enc x args → ∀ Mi G, (∀ φ, φ ∈ F → φ ∈ G) →
      TR P (some l) N assign (Exit.then (fun a w => ∃ i, Sat N (E1 pre x args i) [] a ∧ St w (M1 pre x args i ++ Mi) G) (fun _ _ _ => False)) (envAt ps args E) [] (J pre ++ Mi) G)
    (hbody : ∀ l pre x suf args i, xs = pre ++ x :: suf → enc x args → ∀ Mi G, (∀ φ, φ ∈ F → φ ∈ G) →
      TR P (some l) N body (RoundQ (J (pre ++ [x]) ++ Mi) G) (E1 pre x args i) [] (M1 pre x args i ++ Mi) G)
    (k : ∀ D, NX N .normal Q E ({ target := .collected D, args := #[] } :: ds) (Pts D (.deferred (some [])) :: (J xs ++ Mr)) F) :
    TR P none N (.rangeFunc g ps.toArray assign body) Q E ds M F := by
  intro a w ha hw
  refine wpIn_rangeFunc fun fn _ => ?_
  obtain ⟨rec, hrec⟩ : ∃ rec : LoopState → Option Code → Loop, rec = fun st pe => { state := st, pending := pe, fn, tmps := a.tmps, params := ps.toArray, assign, body, defers := w.heap.size } := ⟨_, rfl⟩
  obtain ⟨W1, hW1⟩ : ∃ W1, W1 = (w.alloc (.deferred (some []))).alloc (.loop (rec .ready none)) := ⟨_, rfl⟩
  have h1 : St W1 (Pts (w.heap.size + 1) (.loop (rec .ready none)) :: Pts w.heap.size (.deferred (some [])) :: (J [] ++ Mr)) F := by
    have := ((hJ w hw).alloc (.deferred (some []))).alloc (.loop (rec .ready none))
    rw [World.size_alloc] at this
    rw [hW1]
    exact this
  refine ⟨w.heap.size + 1, [{ target := .collected w.heap.size, args := #[] }], W1, { target := .fn (.func gf) cap.toArray, args := #[.func (.yield (w.heap.size + 1)) #[] #[]] }, W1, gf,
    (.func (.yield (w.heap.size + 1)) #[] #[] :: cap).toArray, W1, ?_, ?_, fun _ _ => trivial, ?_, fun h => by simp at h, ?_⟩
  · rw [hW1, hrec]; exact run_enterLoop_outer _ _ _ _ _
  · have e0 := ha.eval hg
    have e1 : a.eval (.const (.func (.yield (w.heap.size + 1)) #[] #[])) = .func (.yield (w.heap.size + 1)) #[] #[] := rfl
    simp only [resolve, e0, Deferred.ofValue]
    simp [e1]
  · simp [invoke, hcall]
  · have hJ' := hit (w.heap.size + 1) (fun pre => Pts (w.heap.size + 1) (.loop (rec .ready none)) :: J pre) ?_ (Pts w.heap.size (.deferred (some [])) :: Mr) F (fun _ h => h)
    · have hp : ∀ (r : HP) (L : List HP), (r :: Pts w.heap.size (.deferred (some [])) :: (L ++ Mr)).Perm ((r :: L) ++ (Pts w.heap.size (.deferred (some [])) :: Mr)) := fun r L => (List.perm_middle.symm).cons r
      obtain ⟨hF, hc⟩ := hJ' _ (h1.perm (hp _ _))
      refine ⟨hF, fun cs hr => ?_⟩
      obtain ⟨e, w', fr, ⟨_, he, hst⟩, rest'⟩ := hc cs hr
      subst he
      refine ⟨_, w', fr, ?_, rest'⟩
      have hst' := hst.perm (hp _ _).symm
      have hl := hst'.heap (i := 0) rfl
      refine ⟨none, _, by have := run_endLoop (P := P) hl (by rw [hrec]; simp); rw [hrec] at this; exact this, ?_⟩
      exact k w.heap.size _ _ (ha.ends _) ((hst'.putObj (i := 0) rfl).tail) |> fun h => by rw [ha.defers]; exact h
    · intro pre x suf args hx he Mi G hG W hW
      have hW : St W (Pts (w.heap.size + 1) (.loop (rec .ready none)) :: (J pre ++ Mi)) G := hW
      have hl := hW.heap (i := 0) rfl
      have hy := run_yield (P := P) (args := args.toArray) hl (by rw [hrec]; simp [hlen x args he])
      rw [hrec] at hy
      refine ⟨fn, _, assign, body, hy, roundIn_of_wpIn (F := Wd none) trivial ?_⟩
      have hS : Sat N (envAt ps args E) [] ⟨(ps.zip args).foldl (fun t (p, v) => t.setIfInBounds p v) a.tmps, []⟩ := Sat.params ps args (ha.ends []) hps
      have hz : ((ps.toArray.zip args.toArray).foldl (fun tmps (t, a) => tmps.setIfInBounds t a) a.tmps) = (ps.zip args).foldl (fun t (p, v) => t.setIfInBounds p v) a.tmps := by simp
      have hper : ∀ (r : HP) (L L' : List HP), (r :: (L ++ L')).Perm (L ++ (r :: L')) := fun r L L' => List.perm_middle.symm
      refine wpIn_mono (hassign (w.heap.size + 1) pre x suf args hx he (Pts (w.heap.size + 1) (.loop (rec .ready none)) :: Mi) G hG _ W (by simp only; rw [hz]; exact hS) (hW.perm (hper _ _ _))) ?_
      intro e a1 w1 hq
      cases e with
      | normal =>
        obtain ⟨i, hs1, hw1⟩ := hq
        have hw1' := hw1.perm (hper _ _ _).symm
        have hl1 := hw1'.heap (i := 0) rfl
        refine ⟨_, run_beginRound hl1 (by rw [hrec]), ?_⟩
        have hw2 := (hw1'.putObj (o' := .loop { rec .ready none with state := .busy }) (i := 0) rfl)
        refine wpIn_mono (hbody (w.heap.size + 1) pre x suf args i hx he (Pts (w.heap.size + 1) (.loop { rec .ready none with state := .busy }) :: Mi) G hG a1 _ hs1 (hw2.perm (hper _ _ _))) ?_
        intro e a3 w3 hq3
        cases e with
        | normal =>
          have hw3 : St w3 (J (pre ++ [x]) ++ (Pts (w.heap.size + 1) (.loop { rec .ready none with state := .busy }) :: Mi)) G := hq3
          have hw3' := hw3.perm (hper _ _ _).symm
          have hl3 := hw3'.heap (i := 0) rfl
          refine ⟨_, _, run_endRound none hl3, (), rfl, ?_⟩
          have := hw3'.putObj (o' := .loop { rec .ready none with state := .ready }) (i := 0) rfl
          rw [hrec] at this ⊢
          exact this
        | _ => exact hq3.elim
      | _ => exact hq.elim
end

/-! ### The way out of a function that holds such a loop -/
theorem Ctr.bodyM {P : Program} {f : FuncId} {fn : Func} {c : Code} {args : List Value} {M : List HP} {F : List Fact} {ι : Type} {val : ι → Value} {M' : ι → List HP} {F' : ι → List Fact} {N : Nat}
    (hf : P.funcs[f]? = some fn) (hb : fn.body = some c) (hN : fn.ntmps = N) (h : TR P none N c (bodyPostM (Wd none) 0 P fn (Post val M' F')) (envOf 0 args) [] M F) : Ctr P f args M F ι val M' F' := fun w hw => by
  refine callsIn_of_wp_marks hf hb trivial (h _ w ?_ hw)
  subst hN
  refine ⟨by simp; omega, rfl, fun k v hk => ?_⟩
  obtain ⟨_, h2⟩ := look_envOf args 0 k v hk
  have hlt : k < args.length := (List.getElem?_eq_some_iff.1 h2).1
  rw [Array.getElem?_append_left (by simpa using hlt)]
  simpa using h2
section
variable {P : Program} {N : Nat} {E : Env} {M : List HP} {F : List Fact}
/-- one mark, its block owned -/
theorem NX.retM {fn : Func} {t D : Nat} {v : Value} {ι : Type} {val : ι → Value} {M' : ι → List HP} {F' : ι → List Fact} (j : Nat) (i : ι) (hr : fn.results = #[.tmp t]) (ht : look E t = some v) (hD : M[j]? = some (Pts D (.deferred (some [])))) (hv : v = val i) (hS : ∀ w, St w (M.eraseIdx j) F → St w (M' i) (F' i)) :
    NX N .ret (bodyPostM (Wd none) 0 P fn (Post val M' F')) E [{ target := .collected D, args := #[] }] M F := fun a w ha hw => by
  show LeavesInM _ _ _ _ _ _ a.defers .returning w
  rw [ha.defers]
  have hd := hw.heap hD
  refine ⟨by simp, .inl ⟨D, _, rfl, run_takeDeferred hd, v, ?_, i, by rw [hv], hS _ ?_⟩⟩
  · rw [results_tmp hr]; simp [ha.get t v ht]
  · have h1 := hw.putObj (o' := .deferred none) hD
    have h2 : (M.set j (Pts D (.deferred none)))[j]? = some (Pts D (.deferred none)) := by
      rw [List.getElem?_set_self (List.getElem?_eq_some_iff.1 hD).1]
    have h3 := h1.drop j h2
    rwa [List.eraseIdx_set_eq] at h3
end
end Go.GL
