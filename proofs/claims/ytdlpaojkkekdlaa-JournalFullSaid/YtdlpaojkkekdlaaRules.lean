/- The rules of the walk over the logic of private blocks and lasting facts: one for each form of code and each operation. No condition; over every program. -/
import Derived.Test.YtdlpaojkkekdlaaLog
namespace Go.GL

/-! ### Slots -/
theorem beq_false {a b : Nat} (h : a ≠ b) : Nat.beq a b = false := by
  cases hb : Nat.beq a b with
  | false => rfl
  | true => exact absurd (Nat.eq_of_beq_eq_true hb) h
abbrev Env := List (Nat × Value)
def look : Env → Nat → Option Value
  | [], _ => none
  | (k, v) :: E, n => bif Nat.beq k n then some v else look E n
def evalO (E : Env) : Operand → Option Value
  | .tmp t => look E t
  | .const v => some v
  | .global g => some (.pointer (some ⟨g, 0, none⟩))
  | .func f => some (.func (.func f) #[] #[])
structure Sat (N : Nat) (E : Env) (ds : List Deferred) (a : Act) : Prop where
  size : N ≤ a.tmps.size
  defers : a.defers = ds
  get : ∀ k v, look E k = some v → a.tmps[k]? = some v
theorem Sat.eval {N E ds a} (h : Sat N E ds a) {o : Operand} {v : Value} (ho : evalO E o = some v) : a.eval o = v := by
  cases o with
  | tmp t => simp only [evalO] at ho; simp [Act.eval, h.get t v ho]
  | const v => simpa [evalO, Act.eval] using ho
  | global g => simpa [evalO, Act.eval] using ho
  | func f => simpa [evalO, Act.eval] using ho
theorem Sat.put {N E ds a} (h : Sat N E ds a) {d : Nat} (hd : Nat.ble (d + 1) N = true) (v : Value) : Sat N ((d, v) :: E) ds (a.put (some d) v) := by
  have hd' := Nat.le_of_ble_eq_true hd
  have hs := h.size
  refine ⟨by simpa [Act.put] using h.size, h.defers, fun k u hk => ?_⟩
  simp only [look] at hk
  by_cases e : d = k
  · subst e
    simp at hk
    subst hk
    simp only [Act.put, Array.getElem?_setIfInBounds, if_true]
    rw [if_pos (by omega)]
  · have : Nat.beq d k = false := beq_false e
    rw [this] at hk
    simp only [Act.put, Array.getElem?_setIfInBounds, e, if_false]
    exact h.get k u hk
theorem Sat.putNone {N E ds a} (h : Sat N E ds a) (v : Value) : Sat N E ds (a.put none v) := h
/-- the slots that are kept -/
def SubE (E : Env) : Env → Prop
  | [] => True
  | (k, v) :: E' => look E k = some v ∧ SubE E E'
theorem Sat.sub {N E ds a} (h : Sat N E ds a) : ∀ {E' : Env}, SubE E E' → Sat N E' ds a
  | [], _ => ⟨h.size, h.defers, fun k v hk => by cases hk⟩
  | (k, v) :: E', ⟨h1, h2⟩ => ⟨h.size, h.defers, fun n u hn => by
      simp only [look] at hn
      by_cases e : k = n
      · subst e
        simp at hn
        subst hn
        exact h.get _ _ h1
      · have : Nat.beq k n = false := beq_false e
        rw [this] at hn
        exact (h.sub h2).get n u hn⟩
def wantedG (ops : Array Oper) (E : Env) : Option (Nat × Bool) → Option Bool
  | none => some true
  | some (j, want) => match (ops[j]?).bind (·.dst) with
    | some t => match look E t with
      | some (.bool b) => some (b == want)
      | some (.tuple _) => some false
      | _ => none
    | none => none
theorem Sat.wanted {N E ds a} (h : Sat N E ds a) {ops : Array Oper} {o : Oper} {b : Bool} (hg : wantedG ops E o.guard = some b) : Region.wanted o (yielded ops a.tmps) = b := by
  unfold wantedG at hg
  unfold Region.wanted
  cases hq : o.guard with
  | none => rw [hq] at hg; simpa using hg
  | some x =>
    obtain ⟨j, want⟩ := x
    rw [hq] at hg
    simp only at hg ⊢
    cases hd : (ops[j]?).bind (·.dst) with
    | none => rw [hd] at hg; cases hg
    | some t =>
      rw [hd] at hg
      simp only at hg
      cases hl : look E t with
      | none => rw [hl] at hg; cases hg
      | some v =>
        rw [hl] at hg
        have ht := h.get t v hl
        cases v <;> simp_all [yielded]

/-! ### The walk of one list of operations -/
def isDefer : Op → Bool
  | .defer _ => true
  | _ => false
def RL (P : Program) (r : Option Nat) (N : Nat) (ops : Array Oper) (rest : List Oper) (Q : Exit → Act → World → Prop) (E : Env) (ds : List Deferred) (M : List HP) (F : List Fact) : Prop :=
  ∀ a w, Sat N E ds a → St w M F → wpListIn (Wd r) 0 P ops Q rest a w
/-- the code from an assertion on -/
def TR (P : Program) (r : Option Nat) (N : Nat) (c : Code) (Q : Exit → Act → World → Prop) (E : Env) (ds : List Deferred) (M : List HP) (F : List Fact) : Prop :=
  ∀ a w, Sat N E ds a → St w M F → c.wpIn (Wd r) 0 P Q a w
/-- an exit from an assertion on -/
def NX (N : Nat) (e : Exit) (Q : Exit → Act → World → Prop) (E : Env) (ds : List Deferred) (M : List HP) (F : List Fact) : Prop :=
  ∀ a w, Sat N E ds a → St w M F → Q e a w

section
variable {P : Program} {r : Option Nat} {N : Nat} {ops : Array Oper} {rest : List Oper} {Q : Exit → Act → World → Prop} {E : Env} {ds : List Deferred} {M : List HP} {F : List Fact}
theorem semAt_plain (ρ : Operand → Value) (o : Oper) (h : isDefer o.op = false) : Oper.semAt r ρ o = execOp ρ o :=
  Oper.semAt_eq r ρ o fun c e => by rw [e] at h; cases h
theorem RL.step {o : Oper} (hnd : isDefer o.op = false) (hg : wantedG ops E o.guard = some true)
    (h : ∀ a w, Sat N E ds a → St w M F → o.uponIn (Wd r) 0 P a (wpListIn (Wd r) 0 P ops Q rest) Q ((execOp a.eval o).run P w)) : RL P r N ops (o :: rest) Q E ds M F := fun a w ha hw => by
  unfold wpListIn
  rw [ha.wanted hg, if_pos rfl]
  refine ⟨fun _ _ => trivial, ?_⟩
  rw [semAt_plain (r := (Wd r).round) a.eval o hnd]
  exact h a w ha hw
theorem RL.skip {o : Oper} {d : Nat} (hd : o.dst = some d) (hN : Nat.ble (d + 1) N = true) (hg : wantedG ops E o.guard = some false) (k : RL P r N ops rest Q ((d, undef) :: E) ds M F) : RL P r N ops (o :: rest) Q E ds M F := fun a w ha hw => by
  unfold wpListIn
  rw [ha.wanted hg, if_neg (by simp), hd]
  exact ⟨fun _ _ => trivial, k _ w (ha.put hN _) hw⟩
theorem RL.skipNone {o : Oper} (hd : o.dst = none) (hg : wantedG ops E o.guard = some false) (k : RL P r N ops rest Q E ds M F) : RL P r N ops (o :: rest) Q E ds M F := fun a w ha hw => by
  unfold wpListIn
  rw [ha.wanted hg, if_neg (by simp), hd]
  exact ⟨fun _ _ => trivial, k _ w ha hw⟩
theorem RL.nil (h : NX N .normal Q E ds M F) : RL P r N ops [] Q E ds M F := h
theorem RL.facts {F' : List Fact} (hs : ∀ φ, φ ∈ F' → φ ∈ F) (h : RL P r N ops rest Q E ds M F') : RL P r N ops rest Q E ds M F := fun a w ha hw => h a w ha (hw.facts hs)
theorem RL.weak {M' : List HP} {F' : List Fact} (hs : ∀ w, St w M F → St w M' F') (h : RL P r N ops rest Q E ds M' F') : RL P r N ops rest Q E ds M F := fun a w ha hw => h a w ha (hs w hw)
theorem TR.weak {c : Code} {M' : List HP} {F' : List Fact} (hs : ∀ w, St w M F → St w M' F') (h : TR P r N c Q E ds M' F') : TR P r N c Q E ds M F := fun a w ha hw => h a w ha (hs w hw)
theorem TR.sub {c : Code} {E' : Env} (hs : SubE E E') (h : TR P r N c Q E' ds M F) : TR P r N c Q E ds M F := fun a w ha hw => h a w (ha.sub hs) hw
theorem RL.sub {E' : Env} (hs : SubE E E') (h : RL P r N ops rest Q E' ds M F) : RL P r N ops rest Q E ds M F := fun a w ha hw => h a w (ha.sub hs) hw
theorem NX.weak {e : Exit} {M' : List HP} {F' : List Fact} (hs : ∀ w, St w M F → St w M' F') (h : NX N e Q E ds M' F') : NX N e Q E ds M F := fun a w ha hw => h a w ha (hs w hw)
/-- something is learnt of the world: a choice out of what holds -/
theorem RL.know {ι : Sort _} {p : ι → Prop} (hk : ∀ w, St w M F → ∃ i, p i) (h : ∀ i, p i → RL P r N ops rest Q E ds M F) : RL P r N ops rest Q E ds M F := fun a w ha hw => by
  obtain ⟨i, hi⟩ := hk w hw
  exact h i hi a w ha hw
theorem TR.know {ι : Sort _} {p : ι → Prop} {c : Code} (hk : ∀ w, St w M F → ∃ i, p i) (h : ∀ i, p i → TR P r N c Q E ds M F) : TR P r N c Q E ds M F := fun a w ha hw => by
  obtain ⟨i, hi⟩ := hk w hw
  exact h i hi a w ha hw
theorem RL.open {ι : Sort _} {M' : ι → List HP} {F' : ι → List Fact} (hk : ∀ w, St w M F → ∃ i, St w (M' i) (F' i)) (h : ∀ i, RL P r N ops rest Q E ds (M' i) (F' i)) : RL P r N ops rest Q E ds M F := fun a w ha hw => by
  obtain ⟨i, hi⟩ := hk w hw
  exact h i a w ha hi
theorem TR.open {ι : Sort _} {c : Code} {M' : ι → List HP} {F' : ι → List Fact} (hk : ∀ w, St w M F → ∃ i, St w (M' i) (F' i)) (h : ∀ i, TR P r N c Q E ds (M' i) (F' i)) : TR P r N c Q E ds M F := fun a w ha hw => by
  obtain ⟨i, hi⟩ := hk w hw
  exact h i a w ha hi

/-- something is learnt, and what holds is said anew -/
theorem RL.openP {ι : Sort _} {p : ι → Prop} {M' : ι → List HP} {F' : ι → List Fact} (hk : ∀ w, St w M F → ∃ i, p i ∧ St w (M' i) (F' i)) (h : ∀ i, p i → RL P r N ops rest Q E ds (M' i) (F' i)) : RL P r N ops rest Q E ds M F := fun a w ha hw => by
  obtain ⟨i, hp, hi⟩ := hk w hw
  exact h i hp a w ha hi
theorem TR.openP {ι : Sort _} {c : Code} {p : ι → Prop} {M' : ι → List HP} {F' : ι → List Fact} (hk : ∀ w, St w M F → ∃ i, p i ∧ St w (M' i) (F' i)) (h : ∀ i, p i → TR P r N c Q E ds (M' i) (F' i)) : TR P r N c Q E ds M F := fun a w ha hw => by
  obtain ⟨i, hp, hi⟩ := hk w hw
  exact h i hp a w ha hi
theorem RL.open1 {p : Prop} {M' : List HP} {F' : List Fact} (hk : ∀ w, St w M F → p ∧ St w M' F') (h : p → RL P r N ops rest Q E ds M' F') : RL P r N ops rest Q E ds M F := RL.openP (ι := Unit) (p := fun _ => p) (fun w hw => ⟨(), hk w hw⟩) fun _ => h
theorem TR.open1 {c : Code} {p : Prop} {M' : List HP} {F' : List Fact} (hk : ∀ w, St w M F → p ∧ St w M' F') (h : p → TR P r N c Q E ds M' F') : TR P r N c Q E ds M F := TR.openP (ι := Unit) (p := fun _ => p) (fun w hw => ⟨(), hk w hw⟩) fun _ => h

/-! ### Code -/
theorem TR.region {id : Nat} {l : List Oper} (h : RL P r N l.toArray l Q E ds M F) : TR P r N (.region id l.toArray false) Q E ds M F :=
  fun a w ha hw => wpIn_region_lit (h a w ha hw)
theorem TR.seq {x y : Code} (h : TR P r N x (Exit.then (y.wpIn (Wd r) 0 P Q) Q) E ds M F) : TR P r N (.seq x y) Q E ds M F :=
  fun a w ha hw => wpIn_seq (h a w ha hw)
/-- where ways meet again -/
theorem TR.cut {ι : Type} (E' : ι → Env) (M' : ι → List HP) (F' : ι → List Fact) {x y : Code}
    (h : TR P r N x (Exit.then (fun a w => ∃ i, Sat N (E' i) ds a ∧ St w (M' i) (F' i)) Q) E ds M F) (k : ∀ i, TR P r N y Q (E' i) ds (M' i) (F' i)) : TR P r N (.seq x y) Q E ds M F :=
  fun a w ha hw => wpIn_seq (wpIn_mono (h a w ha hw) fun e a' w' hq => by
    cases e with
    | normal => obtain ⟨i, h1, h2⟩ := hq; exact k i a' w' h1 h2
    | _ => exact hq)
theorem TR.skip (h : NX N .normal Q E ds M F) : TR P r N .skip Q E ds M F := fun a w ha hw => wpIn_skip (h a w ha hw)
theorem TR.ret (h : NX N .ret Q E ds M F) : TR P r N .ret Q E ds M F := fun a w ha hw => wpIn_ret (h a w ha hw)
theorem TR.exit {id : Nat} (h : NX N (.exit id) Q E ds M F) : TR P r N (.exit id) Q E ds M F := fun a w ha hw => wpIn_exit (h a w ha hw)
theorem TR.block {id : Nat} {c : Code} (h : TR P r N c (Exit.inBlock id Q) E ds M F) : TR P r N (.block id c) Q E ds M F := fun a w ha hw => wpIn_block (h a w ha hw)
theorem TR.cond {c : Operand} {x y : Code} {b : Bool} (hc : evalO E c = some (.bool b)) (ht : b = true → TR P r N x Q E ds M F) (hf : b = false → TR P r N y Q E ds M F) : TR P r N (.cond c x y) Q E ds M F :=
  fun a w ha hw => wpIn_cond_split (ha.eval hc) (fun h => ht h a w ha hw) (fun h => hf h a w ha hw)
theorem TR.condT {c : Operand} {x y : Code} (hc : evalO E c = some (.bool true)) (ht : TR P r N x Q E ds M F) : TR P r N (.cond c x y) Q E ds M F :=
  fun a w ha hw => wpIn_cond_true (ha.eval hc) (ht a w ha hw)
theorem TR.condF {c : Operand} {x y : Code} (hc : evalO E c = some (.bool false)) (hf : TR P r N y Q E ds M F) : TR P r N (.cond c x y) Q E ds M F :=
  fun a w ha hw => wpIn_cond_false (ha.eval hc) (hf a w ha hw)
/-- one of the states of a loop -/
def Inv {ι : Type} (N : Nat) (ds : List Deferred) (E' : ι → Env) (M' : ι → List HP) (F' : ι → List Fact) (μ : ι → Nat) (n : Nat) : Act → World → Prop :=
  fun a w => ∃ j, μ j < n ∧ Sat N (E' j) ds a ∧ St w (M' j) (F' j)
theorem exists_min {p : Nat → Prop} (h : ∃ n, p n) : ∃ n, p n ∧ ∀ m, p m → n ≤ m := by
  obtain ⟨n, hn⟩ := h
  induction n using Nat.strongRecOn with
  | _ n ih =>
    by_cases hq : ∃ m, m < n ∧ p m
    · obtain ⟨m, hm, hpm⟩ := hq
      exact ih m hm hpm
    · exact ⟨n, hn, fun m hm => Nat.le_of_not_lt fun hlt => hq ⟨m, hlt, hm⟩⟩
theorem TR.loop {ι : Type} (E' : ι → Env) (M' : ι → List HP) (F' : ι → List Fact) (μ : ι → Nat) (i0 : ι) {body : Code} (hE : SubE E (E' i0)) (hS : ∀ w, St w M F → St w (M' i0) (F' i0))
    (h : ∀ i, TR P r N body (Exit.then (Inv N ds E' M' F' μ (μ i)) Q) (E' i) ds (M' i) (F' i)) : TR P r N (.loop body) Q E ds M F := fun a w ha hw => by
  classical
  have key : ∀ n (i : ι), μ i = n → ∀ a w, Sat N (E' i) ds a → St w (M' i) (F' i) → (Code.loop body).wpIn (Wd r) 0 P Q a w := by
    intro n i hn a w ha hw
    refine wpIn_loop (fun a w => ∃ i, Sat N (E' i) ds a ∧ St w (M' i) (F' i)) (fun a w => if h : ∃ n i, μ i = n ∧ Sat N (E' i) ds a ∧ St w (M' i) (F' i) then Classical.choose (exists_min h) else 0) ⟨i, ha, hw⟩ ?_
    rintro a w ⟨i, ha, hw⟩
    have hex : ∃ n i, μ i = n ∧ Sat N (E' i) ds a ∧ St w (M' i) (F' i) := ⟨_, i, rfl, ha, hw⟩
    obtain ⟨⟨i1, e1, ha1, hw1⟩, hmin⟩ := Classical.choose_spec (exists_min hex)
    refine wpIn_mono (h i1 a w ha1 hw1) fun e a' w' hq => ?_
    cases e with
    | normal =>
      obtain ⟨j, hlt, haj, hwj⟩ := hq
      refine ⟨⟨j, haj, hwj⟩, ?_⟩
      have hex' : ∃ n i, μ i = n ∧ Sat N (E' i) ds a' ∧ St w' (M' i) (F' i) := ⟨_, j, rfl, haj, hwj⟩
      rw [dif_pos hex', dif_pos hex]
      have h2 := (Classical.choose_spec (exists_min hex')).2 (μ j) ⟨j, rfl, haj, hwj⟩
      omega
    | _ => exact hq
  exact key _ i0 rfl a w (ha.sub hE) (hS w hw)

/-- one of the states of a loop, with what is known of it -/
def InvP {ι : Type} (p : ι → Prop) (N : Nat) (ds : List Deferred) (E' : ι → Env) (M' : ι → List HP) (F' : ι → List Fact) (μ : ι → Nat) (n : Nat) : Act → World → Prop :=
  fun a w => ∃ j, p j ∧ μ j < n ∧ Sat N (E' j) ds a ∧ St w (M' j) (F' j)
theorem TR.loopP {ι : Type} (p : ι → Prop) (E' : ι → Env) (M' : ι → List HP) (F' : ι → List Fact) (μ : ι → Nat) (i0 : ι) {body : Code} (hp : p i0) (hE : SubE E (E' i0)) (hS : ∀ w, St w M F → St w (M' i0) (F' i0))
    (h : ∀ i, p i → TR P r N body (Exit.then (InvP p N ds E' M' F' μ (μ i)) Q) (E' i) ds (M' i) (F' i)) : TR P r N (.loop body) Q E ds M F :=
  TR.loop (ι := {i : ι // p i}) (fun i => E' i.1) (fun i => M' i.1) (fun i => F' i.1) (fun i => μ i.1) ⟨i0, hp⟩ hE hS fun i a w ha hw => wpIn_mono (h i.1 i.2 a w ha hw) fun e a' w' hq => by
    cases e with
    | normal => obtain ⟨j, h1, h2, h3, h4⟩ := hq; exact ⟨⟨j, h1⟩, h2, h3, h4⟩
    | _ => exact hq

/-! ### Exits through what stands around -/
theorem NX.seq {y : Code} {Q' : Exit → Act → World → Prop} (h : TR P r N y Q E ds M F) : NX N .normal (Exit.then (y.wpIn (Wd r) 0 P Q) Q') E ds M F := h
theorem NX.round {ι : Type} {E' : ι → Env} {M' : ι → List HP} {F' : ι → List Fact} {μ : ι → Nat} {n : Nat} (j : ι) (hμ : μ j < n) (hE : SubE E (E' j)) (hS : ∀ w, St w M F → St w (M' j) (F' j)) : NX N .normal (Exit.then (Inv N ds E' M' F' μ n) Q) E ds M F :=
  fun _ w ha hw => ⟨j, hμ, ha.sub hE, hS w hw⟩
theorem NX.roundP {ι : Type} {p : ι → Prop} {E' : ι → Env} {M' : ι → List HP} {F' : ι → List Fact} {μ : ι → Nat} {n : Nat} (j : ι) (hp : p j) (hμ : μ j < n) (hE : SubE E (E' j)) (hS : ∀ w, St w M F → St w (M' j) (F' j)) : NX N .normal (Exit.then (InvP p N ds E' M' F' μ n) Q) E ds M F :=
  fun _ w ha hw => ⟨j, hp, hμ, ha.sub hE, hS w hw⟩
theorem NX.meet {ι : Type} {E' : ι → Env} {M' : ι → List HP} {F' : ι → List Fact} (j : ι) (hE : SubE E (E' j)) (hS : ∀ w, St w M F → St w (M' j) (F' j)) : NX N .normal (Exit.then (fun a w => ∃ i, Sat N (E' i) ds a ∧ St w (M' i) (F' i)) Q) E ds M F :=
  fun _ w ha hw => ⟨j, ha.sub hE, hS w hw⟩
theorem NX.off {id : Nat} (h : NX N .normal Q E ds M F) : NX N .normal (Exit.inBlock id Q) E ds M F := h
theorem NX.exitThen {id : Nat} {K : Act → World → Prop} (h : NX N (.exit id) Q E ds M F) : NX N (.exit id) (Exit.then K Q) E ds M F := h
theorem NX.exitHere {id : Nat} (h : NX N .normal Q E ds M F) : NX N (.exit id) (Exit.inBlock id Q) E ds M F := fun a w ha hw => by
  show (if id = id then _ else _)
  rw [if_pos rfl]
  exact h a w ha hw
theorem NX.exitOn {id id' : Nat} (hne : Nat.beq id id' = false) (h : NX N (.exit id) Q E ds M F) : NX N (.exit id) (Exit.inBlock id' Q) E ds M F := fun a w ha hw => by
  show (if id = id' then _ else _)
  rw [if_neg (Nat.ne_of_beq_eq_false hne)]
  exact h a w ha hw
theorem NX.retThen {K : Act → World → Prop} (h : NX N .ret Q E ds M F) : NX N .ret (Exit.then K Q) E ds M F := h
theorem NX.retBlock {id : Nat} (h : NX N .ret Q E ds M F) : NX N .ret (Exit.inBlock id Q) E ds M F := h
end

/-! ### Contracts -/
/-- what a call says: it returns one of the values, and leaves one of the states -/
def CI (P : Program) (f : FuncId) (args : Array Value) (w : World) (R : Ending → World → Prop) : Prop := CallsIn (Wd none) 0 P f args w R
def Post {ι : Type} (val : ι → Value) (M' : ι → List HP) (F' : ι → List Fact) : Ending → World → Prop := fun e w' => ∃ i, e = .returned (val i) ∧ St w' (M' i) (F' i)
def Ctr (P : Program) (f : FuncId) (args : List Value) (M : List HP) (F : List Fact) (ι : Type) (val : ι → Value) (M' : ι → List HP) (F' : ι → List Fact) : Prop :=
  ∀ w, St w M F → CI P f args.toArray w (Post val M' F')
theorem perm_mid (L J Mi : List HP) : (L ++ (J ++ Mi)).Perm (J ++ (L ++ Mi)) := by
  rw [← List.append_assoc, ← List.append_assoc]
  exact List.perm_append_comm.append_right _
/-- what stands ahead may be set aside -/
theorem Ctr.frame {P : Program} {f : FuncId} {args : List Value} {F : List Fact} {ι : Type} {val : ι → Value} {F' : ι → List Fact} (L : List HP) {J Mi : List HP} {J' : ι → List HP}
    (h : Ctr P f args (J ++ (L ++ Mi)) F ι val (fun i => J' i ++ (L ++ Mi)) F') : Ctr P f args (L ++ (J ++ Mi)) F ι val (fun i => L ++ (J' i ++ Mi)) F' := fun w hw =>
  ⟨(h w (hw.perm (perm_mid _ _ _))).1, fun cs hr => by
    obtain ⟨e, w', fr, ⟨i, he, hs⟩, rest⟩ := (h w (hw.perm (perm_mid _ _ _))).2 cs hr
    exact ⟨e, w', fr, ⟨i, he, hs.perm (perm_mid _ _ _).symm⟩, rest⟩⟩
def envOf : Nat → List Value → Env
  | _, [] => []
  | n, v :: vs => (n, v) :: envOf (n + 1) vs
theorem look_envOf : ∀ (vs : List Value) (n k : Nat) (v : Value), look (envOf n vs) k = some v → n ≤ k ∧ vs[k - n]? = some v
  | [], _, _, _, h => by cases h
  | u :: vs, n, k, v, h => by
    simp only [envOf, look] at h
    by_cases e : n = k
    · subst e
      simp at h
      simp [h]
    · have hb : Nat.beq n k = false := beq_false e
      rw [hb] at h
      obtain ⟨h1, h2⟩ := look_envOf vs (n + 1) k v h
      refine ⟨by omega, ?_⟩
      have : k - n = (k - (n + 1)) + 1 := by omega
      rw [this]
      simpa using h2
theorem Ctr.body {P : Program} {f : FuncId} {fn : Func} {c : Code} {args : List Value} {M : List HP} {F : List Fact} {ι : Type} {val : ι → Value} {M' : ι → List HP} {F' : ι → List Fact} {N : Nat}
    (hf : P.funcs[f]? = some fn) (hb : fn.body = some c) (hN : fn.ntmps = N) (h : TR P none N c (bodyPost P fn (Post val M' F')) (envOf 0 args) [] M F) : Ctr P f args M F ι val M' F' := fun w hw => by
  refine callsIn_of_wp hf hb trivial (h _ w ?_ hw)
  subst hN
  refine ⟨by simp; omega, rfl, fun k v hk => ?_⟩
  obtain ⟨_, h2⟩ := look_envOf args 0 k v hk
  have hlt : k < args.length := (List.getElem?_eq_some_iff.1 h2).1
  rw [Array.getElem?_append_left (by simpa using hlt)]
  simpa using h2
theorem Ctr.weak {P : Program} {f : FuncId} {args : List Value} {M M1 : List HP} {F F1 : List Fact} {ι κ : Type} {val : ι → Value} {M' : ι → List HP} {F' : ι → List Fact} {val1 : κ → Value} {M1' : κ → List HP} {F1' : κ → List Fact}
    (h : Ctr P f args M F ι val M' F') (hi : ∀ w, St w M1 F1 → St w M F) (g : ι → κ) (hv : ∀ i, val i = val1 (g i)) (ho : ∀ i w, St w (M' i) (F' i) → St w (M1' (g i)) (F1' (g i))) : Ctr P f args M1 F1 κ val1 M1' F1' := fun w hw =>
  ⟨(h w (hi w hw)).1, fun cs hr => by
    obtain ⟨e, w', fr, ⟨i, he, hs⟩, rest⟩ := (h w (hi w hw)).2 cs hr
    exact ⟨e, w', fr, ⟨g i, he.trans (by rw [hv]), ho i w' hs⟩, rest⟩⟩
/-- a contract whose premises hang on the world -/
theorem Ctr.know {P : Program} {f : FuncId} {args : List Value} {M : List HP} {F : List Fact} {ι : Type} {val : ι → Value} {M' : ι → List HP} {F' : ι → List Fact} {κ : Sort _} {p : κ → Prop}
    (hk : ∀ w, St w M F → ∃ i, p i) (h : ∀ i, p i → Ctr P f args M F ι val M' F') : Ctr P f args M F ι val M' F' := fun w hw => by
  obtain ⟨i, hi⟩ := hk w hw
  exact h i hi w hw

section
variable {P : Program} {r : Option Nat} {N : Nat} {ops : Array Oper} {rest : List Oper} {Q : Exit → Act → World → Prop} {E : Env} {ds : List Deferred} {M : List HP} {F : List Fact}
def evalArgs (E : Env) : List Operand → Option (List Value)
  | [] => some []
  | o :: os => match evalO E o, evalArgs E os with
    | some v, some vs => some (v :: vs)
    | _, _ => none
theorem Sat.args {a : Act} (h : Sat N E ds a) : ∀ {os : List Operand} {vs : List Value}, evalArgs E os = some vs → os.map a.eval = vs
  | [], vs, e => by simpa [evalArgs] using e
  | o :: os, vs, e => by
    simp only [evalArgs] at e
    cases h1 : evalO E o with
    | none => rw [h1] at e; cases e
    | some v =>
      cases h2 : evalArgs E os with
      | none => rw [h1, h2] at e; cases e
      | some us =>
        rw [h1, h2] at e
        simp at e
        subst e
        simp [h.eval h1, h.args h2]
/-- A CALL, by its contract. 'captured': what the function value has captured (none for a named function). -/
theorem RL.callV {d : Nat} {cal : Operand} {as : List Operand} {ats : Array TypeId} {ty : TypeId} {pos : String} {aft : Array Edge} {gd : Option (Nat × Bool)} {vs fst cap : List Value} {f : FuncId} {ι : Type} {val : ι → Value} {M' : ι → List HP} {F' : ι → List Fact}
    (hg : wantedG ops E gd = some true) (hc : evalO E cal = some (.func (.func f) fst.toArray cap.toArray)) (ha : evalArgs E as = some vs) (hcall : ∀ args w, (callFunc f args).run P w = .ok (.enter f args) w) (hN : Nat.ble (d + 1) N = true)
    (h : Ctr P f (fst ++ vs ++ cap) M F ι val M' F') (k : ∀ i, RL P r N ops rest Q ((d, val i) :: E) ds (M' i) (F' i)) :
    RL P r N ops (⟨some d, .call ⟨.value cal, as.toArray, ats⟩, ty, pos, aft, gd⟩ :: rest) Q E ds M F := by
  refine RL.step rfl hg fun a w hs hw => ?_
  have e1 : (execOp a.eval ⟨some d, .call ⟨.value cal, as.toArray, ats⟩, ty, pos, aft, gd⟩).run P w = .ok (.enter f (fst ++ vs ++ cap).toArray) w := by
    simp [execOp, resolve, hs.eval hc, hs.args ha, Deferred.ofValue, invoke, hcall]
  rw [e1]
  refine ⟨fun h => by simp at h, ?_⟩
  have := h w hw
  refine ⟨this.1, fun cs hr => ?_⟩
  obtain ⟨e, w', fr, ⟨i, he, hst⟩, rest'⟩ := this.2 cs hr
  subst he
  exact ⟨_, w', fr, k i _ w' (hs.put hN _) hst, rest'⟩
theorem RL.call {d : Nat} {f : FuncId} {as : List Operand} {ats : Array TypeId} {ty : TypeId} {pos : String} {aft : Array Edge} {gd : Option (Nat × Bool)} {vs : List Value} {ι : Type} {val : ι → Value} {M' : ι → List HP} {F' : ι → List Fact}
    (hg : wantedG ops E gd = some true) (ha : evalArgs E as = some vs) (hcall : ∀ args w, (callFunc f args).run P w = .ok (.enter f args) w) (hN : Nat.ble (d + 1) N = true)
    (h : Ctr P f vs M F ι val M' F') (k : ∀ i, RL P r N ops rest Q ((d, val i) :: E) ds (M' i) (F' i)) :
    RL P r N ops (⟨some d, .call ⟨.value (.func f), as.toArray, ats⟩, ty, pos, aft, gd⟩ :: rest) Q E ds M F :=
  RL.callV (fst := []) (cap := []) hg rfl ha hcall hN (by simpa using h) k

/-! ### Ends -/
theorem NX.ret1 {fn : Func} {t : Nat} {v : Value} {ι : Type} {val : ι → Value} {M' : ι → List HP} {F' : ι → List Fact} (i : ι) (hr : fn.results = #[.tmp t]) (ht : look E t = some v) (hv : v = val i) (hS : ∀ w, St w M F → St w (M' i) (F' i)) :
    NX N .ret (bodyPost P fn (Post val M' F')) E [] M F := fun a w ha hw => by
  refine ⟨ha.defers, v, ?_, i, by rw [hv], hS w hw⟩
  rw [results_tmp hr]
  simp [ha.get t v ht]
theorem NX.ret2 {fn : Func} {t u : Nat} {v v' : Value} {ι : Type} {val : ι → Value} {M' : ι → List HP} {F' : ι → List Fact} (i : ι) (hr : fn.results = #[.tmp t, .tmp u]) (ht : look E t = some v) (hu : look E u = some v') (hv : .tuple #[v, v'] = val i) (hS : ∀ w, St w M F → St w (M' i) (F' i)) :
    NX N .ret (bodyPost P fn (Post val M' F')) E [] M F := fun a w ha hw => by
  refine ⟨ha.defers, .tuple #[v, v'], ?_, i, by rw [hv], hS w hw⟩
  rw [results_tmp2 hr]
  simp [ha.get t v ht, ha.get u v' hu]
theorem NX.end0 {fn : Func} {ι : Type} {val : ι → Value} {M' : ι → List HP} {F' : ι → List Fact} (i : ι) (hr : fn.results = #[]) (hv : .tuple #[] = val i) (hS : ∀ w, St w M F → St w (M' i) (F' i)) :
    NX N .normal (bodyPost P fn (Post val M' F')) E [] M F := fun a w ha hw => by
  refine ⟨ha.defers, .tuple #[], results_none hr _ _ _, i, by rw [hv], hS w hw⟩
theorem NX.ret0 {fn : Func} {ι : Type} {val : ι → Value} {M' : ι → List HP} {F' : ι → List Fact} (i : ι) (hr : fn.results = #[]) (hv : .tuple #[] = val i) (hS : ∀ w, St w M F → St w (M' i) (F' i)) :
    NX N .ret (bodyPost P fn (Post val M' F')) E [] M F := fun a w ha hw => by
  refine ⟨ha.defers, .tuple #[], results_none hr _ _ _, i, by rw [hv], hS w hw⟩
end
end Go.GL
