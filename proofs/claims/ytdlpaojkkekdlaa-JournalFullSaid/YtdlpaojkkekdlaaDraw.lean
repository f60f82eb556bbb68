/- The rule of the walk for a statement whose order Go leaves open: quiet operations whenever they come, the others one behind the other. No condition; over every program. -/
import Derived.Test.YtdlpaojkkekdlaaOps2
namespace Go.GL

/-! ### Whatever order -/
def readyB (ops : Array Oper) (S : List Nat) (i : Nat) : Bool :=
  !S.contains i && (match ops[i]? with | some o => o.after.all fun e => !Region.binds .any e || S.contains e.on | none => false)
def stepI (r : Option Nat) (P : Program) (ops : Array Oper) (Q : Exit → Act → World → Prop) (i : Nat) (a : Act) (w : World) (K : Act → World → Prop) : Prop :=
  ∃ o, ops[i]? = some o ∧ (if Region.wanted o (yielded ops a.tmps) then o.wpIn (Wd r) 0 P a w K Q else K (a.put o.dst undef) w)
/-- every order that the edges allow -/
def AO (r : Option Nat) (P : Program) (ops : Array Oper) (Q : Exit → Act → World → Prop) : Nat → List Nat → Act → World → Prop
  | 0, _, a, w => Q .normal a w
  | n + 1, S, a, w => (∃ i, i < ops.size ∧ readyB ops S i = true) ∧ ∀ i, i < ops.size → readyB ops S i = true → stepI r P ops Q i a w (AO r P ops Q n (i :: S))

theorem uponIn_mono {F : Fence} {n : Nat} {P : Program} {o : Oper} {a : Act} {K K' : Act → World → Prop} {Q : Exit → Act → World → Prop} (hk : ∀ a w, K a w → K' a w) {res : Result Next} (h : o.uponIn F n P a K Q res) : o.uponIn F n P a K' Q res := by
  unfold Oper.uponIn at h ⊢
  split at h
  · exact hk _ _ h
  · exact hk _ _ h
  · exact hk _ _ h
  · refine ⟨h.1, h.2.1, fun cs hr => ?_⟩
    obtain ⟨e, w', fr, hR, rest⟩ := h.2.2 cs hr
    refine ⟨e, w', fr, ?_, rest⟩
    cases e with
    | returned v => exact hk _ _ hR
    | panicked c => exact hR
    | outgrown => exact hR
  · exact ⟨h.1, h.2.mono fun v w' hv => hk _ _ hv⟩
  · refine ⟨h.1, h.2.mono fun e w' hv => ?_⟩
    cases e with
    | returned v => exact hk _ _ hv
    | panicked c => exact hv
    | outgrown => exact hv
  · exact h
  · exact h.elim
theorem stepI_mono {r P ops Q i a w} {K K' : Act → World → Prop} (hk : ∀ a w, K a w → K' a w) (h : stepI r P ops Q i a w K) : stepI r P ops Q i a w K' := by
  obtain ⟨o, ho, h⟩ := h
  refine ⟨o, ho, ?_⟩
  split at h
  · rename_i hw; rw [if_pos hw]; exact ⟨h.1, uponIn_mono hk h.2⟩
  · rename_i hw; rw [if_neg hw]; exact hk _ _ h

/-- the order without the list that is carried -/
def lin (ops : Array Oper) : Nat → Nat → Array Bool → List Nat
  | 0, _, _ => []
  | fuel + 1, t, listed =>
    let rs := (List.range ops.size).filter fun i => !listed.getD i true && ((ops[i]?).map (·.after.all fun e => !Region.binds .any e || listed.getD e.on false)).getD false
    match rs[t % rs.length]? with
    | some i => i :: lin ops fuel (t / rs.length) (listed.setIfInBounds i true)
    | none => []
theorem go_lin (ops : Array Oper) : ∀ (fuel t : Nat) (listed : Array Bool) (acc : List Nat), Region.linearise.go .any ops fuel t listed acc = acc.reverse ++ lin ops fuel t listed
  | 0, t, listed, acc => by simp [Region.linearise.go, lin]
  | fuel + 1, t, listed, acc => by
    simp only [Region.linearise.go, lin]
    split
    · rename_i i hi
      rw [go_lin ops fuel, hi]
      simp
    · rename_i hi
      rw [hi]
      simp
theorem wp_any {r P ops Q} : ∀ (fuel : Nat) (S : List Nat) (a : Act) (w : World) (t : Nat) (listed : Array Bool), AO r P ops Q fuel S a w → listed.size = ops.size → (∀ i, listed.getD i false = S.contains i) → wpOpsIn (Wd r) 0 P ops Q (lin ops fuel t listed) a w
  | 0, S, a, w, t, listed, h, _, _ => h
  | fuel + 1, S, a, w, t, listed, h, hl, hm => by
    obtain ⟨⟨i0, hi0, hr0⟩, h⟩ := h
    have hf : ∀ i, i < ops.size → (!listed.getD i true && ((ops[i]?).map (·.after.all fun e => !Region.binds .any e || listed.getD e.on false)).getD false) = readyB ops S i := by
      intro i hi
      have h1 : listed.getD i true = S.contains i := by
        rw [← hm i]
        simp [hl, hi]
      rw [h1]
      unfold readyB
      cases ho : ops[i]? with
      | none => rfl
      | some o => simp only [hm, Option.map_some, Option.getD_some]
    simp only [lin]
    have hmem : i0 ∈ (List.range ops.size).filter fun i => !listed.getD i true && ((ops[i]?).map (·.after.all fun e => !Region.binds .any e || listed.getD e.on false)).getD false := by
      rw [List.mem_filter]
      exact ⟨List.mem_range.2 hi0, (hf i0 hi0).trans hr0⟩
    have key : ∀ rs : List Nat, i0 ∈ rs → (∀ i, i ∈ rs → i < ops.size ∧ readyB ops S i = true) →
        wpOpsIn (Wd r) 0 P ops Q (match rs[t % rs.length]? with | some i => i :: lin ops fuel (t / rs.length) (listed.setIfInBounds i true) | none => []) a w := by
      intro rs hmem hall
      have hlt : t % rs.length < rs.length := Nat.mod_lt _ (List.length_pos_of_mem hmem)
      rw [List.getElem?_eq_getElem hlt]
      obtain ⟨hi1, hrd⟩ := hall _ (List.getElem_mem hlt)
      generalize rs[t % rs.length] = i at *
      have hst := h i hi1 hrd
      have := stepI_mono (fun a w hk => wp_any fuel (i :: S) a w (t / rs.length) (listed.setIfInBounds i true) hk (by simpa using hl) (fun j => by
        by_cases e : i = j
        · subst e; simp [hl, hi1]
        · have h2 := hm j
          simp only [Array.getD_eq_getD_getElem?, Array.getElem?_setIfInBounds, e, if_false, List.contains_cons] at h2 ⊢
          rw [h2]
          have : (j == i) = false := by simp; exact fun h => e h.symm
          simp [this])) hst
      obtain ⟨o, ho, hs⟩ := this
      simp only [wpOpsIn, ho]
      split at hs
      · rename_i hw; rw [if_pos hw]; exact hs
      · rename_i hw; rw [if_neg hw]; exact ⟨fun _ _ => trivial, hs⟩
    refine key _ hmem fun i hi => ?_
    rw [List.mem_filter] at hi
    have hi1 := List.mem_range.1 hi.1
    exact ⟨hi1, (hf i hi1).symm.trans hi.2⟩

/-! ### The rule -/
/-- one operation, whatever follows -/
def EV (P : Program) (r : Option Nat) (Q : Exit → Act → World → Prop) (E : Env) (M : List HP) (F : List Fact) (o : Oper) (ι : Type) (val : ι → Value) (M' : ι → List HP) (F' : ι → List Fact) : Prop :=
  isDefer o.op = false ∧ ∀ a w next, (∀ x u, evalO E x = some u → a.eval x = u) → St w M F → (∀ i w', St w' (M' i) (F' i) → next (a.put o.dst (val i)) w') → o.uponIn (Wd r) 0 P a next Q ((execOp a.eval o).run P w)
def PV (P : Program) (E : Env) (M : List HP) (F : List Fact) (o : Oper) (v : Value) : Prop :=
  isDefer o.op = false ∧ ∀ ρ : Operand → Value, (∀ x u, evalO E x = some u → ρ x = u) → ∀ w, St w M F → (execOp ρ o).run P w = .ok (.value v) w
/-- the slots that the operations js have written -/
def envD (ops : Array Oper) (V : Env) : List Nat → Env
  | [] => []
  | j :: js => match (ops[j]?).bind (·.dst), look V j with
    | some d, some v => (d, v) :: envD ops V js
    | _, _ => envD ops V js
def depsOf (ops : Array Oper) (i : Nat) : List Nat := match ops[i]? with
  | some o => (o.after.toList.filter (Region.binds .any)).map (·.on)
  | none => []
/-- no slot is written twice, none that is kept is written; what is written is there -/
def slotsOk (ops : Array Oper) (E : Env) (N : Nat) : Bool :=
  let ds := ops.toList.filterMap (·.dst)
  ds.Nodup && ds.all (fun d => Nat.ble (d + 1) N && (look E d).isNone)
/-- there is an order -/
def orderOk (ops : Array Oper) : List Nat → List Nat → Bool
  | [], S => (List.range ops.size).all S.contains
  | i :: l, S => Nat.ble (i + 1) ops.size && ((depsOf ops i).all S.contains && orderOk ops l (i :: S))

structure DInv (N : Nat) (ops : Array Oper) (V : Env) (D : List Nat) (E : Env) (ds : List Deferred) (S : List Nat) (a : Act) : Prop where
  sat : Sat N E ds a
  vals : ∀ i, i ∈ S → i < ops.size ∧ ∃ v, look V i = some v ∧ ∀ d, (ops[i]?).bind (·.dst) = some d → a.tmps[d]? = some v
  done : ∀ i, i ∈ D → i ∈ S
  nodup : S.Nodup
  closed : ∀ i, i ∈ S → ∀ j, j ∈ depsOf ops i → j ∈ S
/-- whatever has been carried out of the quiet ones -/
def AR (P : Program) (r : Option Nat) (N : Nat) (ops : Array Oper) (Q : Exit → Act → World → Prop) (V : Env) (D : List Nat) (E : Env) (ds : List Deferred) (M : List HP) (F : List Fact) : Prop :=
  ∀ fuel S a w, DInv N ops V D E ds S a → St w M F → fuel + S.length = ops.size → AO r P ops Q fuel S a w

section
variable {P : Program} {r : Option Nat} {N : Nat} {ops : Array Oper} {Q : Exit → Act → World → Prop} {V : Env} {D : List Nat} {E : Env} {ds : List Deferred} {M : List HP} {F : List Fact}
theorem DInv.sat_deps {S : List Nat} {a : Act} (h : DInv N ops V D E ds S a) : ∀ {js : List Nat}, (∀ j, j ∈ js → j ∈ S) → Sat N (envD ops V js ++ E) ds a
  | [], _ => h.sat
  | j :: js, hj => by
    have ih := h.sat_deps (js := js) fun k hk => hj k (by simp [hk])
    obtain ⟨hjs, v, hv, hd⟩ := h.vals j (hj j (by simp))
    simp only [envD]
    cases hb : (ops[j]?).bind (·.dst) with
    | none => exact ih
    | some d =>
      rw [hv]
      refine ⟨ih.size, ih.defers, fun k u hk => ?_⟩
      simp only [List.cons_append, look] at hk
      by_cases e : d = k
      · subst e
        simp at hk
        subst hk
        exact hd _ hb
      · rw [beq_false e] at hk
        exact ih.get k u hk
theorem depsOf_ready {S : List Nat} {i : Nat} (h : readyB ops S i = true) : ∀ j, j ∈ depsOf ops i → j ∈ S := by
  intro j hj
  unfold readyB at h
  unfold depsOf at hj
  cases ho : ops[i]? with
  | none => rw [ho] at hj; cases hj
  | some o =>
    rw [ho] at h hj
    simp only [Bool.and_eq_true] at h
    simp only [List.mem_map, List.mem_filter] at hj
    obtain ⟨e, ⟨he, hb⟩, rfl⟩ := hj
    have := Array.all_eq_true_iff_forall_mem.1 h.2 e (Array.mem_toList_iff.1 he)
    simp [hb] at this
    exact this
theorem slots_ne (hs : slotsOk ops E N = true) {i j d : Nat} (hi : (ops[i]?).bind (·.dst) = some d) (hj : (ops[j]?).bind (·.dst) = some d) : i = j := by
  unfold slotsOk at hs
  simp only [Bool.and_eq_true, decide_eq_true_eq] at hs
  have hn := hs.1
  clear hs
  obtain ⟨l⟩ := ops
  simp only [List.getElem?_toArray] at hi hj hn
  induction l generalizing i j with
  | nil => simp at hi
  | cons o l ih =>
    have key : ∀ k, ((o :: l)[k + 1]?).bind (·.dst) = some d → d ∈ l.filterMap (·.dst) := by
      intro k hk
      simp only [List.getElem?_cons_succ] at hk
      cases hx : l[k]? with
      | none => rw [hx] at hk; cases hk
      | some x => rw [hx] at hk; exact List.mem_filterMap.2 ⟨x, List.mem_of_getElem? hx, hk⟩
    cases i with
    | zero =>
      cases j with
      | zero => rfl
      | succ j =>
        have h1 : o.dst = some d := by simpa using hi
        rw [List.filterMap_cons, h1] at hn
        exact absurd (key j hj) (List.nodup_cons.1 hn).1
    | succ i =>
      cases j with
      | zero =>
        have h1 : o.dst = some d := by simpa using hj
        rw [List.filterMap_cons, h1] at hn
        exact absurd (key i hi) (List.nodup_cons.1 hn).1
      | succ j =>
        have hn' : (l.filterMap (·.dst)).Nodup := by
          rw [List.filterMap_cons] at hn
          split at hn
          · exact hn
          · exact (List.nodup_cons.1 hn).2
        exact congrArg (· + 1) (ih (i := i) (j := j) hn' (by simpa using hi) (by simpa using hj))
theorem slots_fresh (hs : slotsOk ops E N = true) {i d : Nat} (hi : (ops[i]?).bind (·.dst) = some d) : Nat.ble (d + 1) N = true ∧ look E d = none := by
  unfold slotsOk at hs
  simp only [Bool.and_eq_true] at hs
  cases ho : ops[i]? with
  | none => rw [ho] at hi; cases hi
  | some o =>
    rw [ho] at hi
    have hm : d ∈ ops.toList.filterMap (·.dst) := List.mem_filterMap.2 ⟨o, Array.mem_toList_iff.2 (Array.mem_of_getElem? ho), hi⟩
    have := List.all_eq_true.1 hs.2 d hm
    simp only [Bool.and_eq_true] at this
    exact ⟨this.1, by simpa using this.2⟩
/-- one more is carried out -/
theorem DInv.put {S : List Nat} {a : Act} (h : DInv N ops V D E ds S a) (hs : slotsOk ops E N = true) {i : Nat} {o : Oper} (ho : ops[i]? = some o) (hiS : i ∉ S) (hdeps : ∀ j, j ∈ depsOf ops i → j ∈ S) {v : Value} {V' : Env} {D' : List Nat} (hV : look V' i = some v) (hVV : ∀ j u, j ≠ i → look V j = some u → look V' j = some u) (hD : ∀ j, j ∈ D' → j = i ∨ j ∈ D) :
    DInv N ops V' D' E ds (i :: S) (a.put o.dst v) := by
  have hoi : (ops[i]?).bind (·.dst) = o.dst := by rw [ho]; rfl
  refine ⟨?_, fun j hj => ?_, fun j hj => ?_, List.nodup_cons.2 ⟨hiS, h.nodup⟩, fun j hj k hk => ?_⟩
  · cases hd : o.dst with
    | none => exact h.sat
    | some d =>
      obtain ⟨h1, h2⟩ := slots_fresh hs (hoi.trans hd)
      have h3 := h.sat.put h1 v
      refine ⟨h3.size, h3.defers, fun k u hk => h3.get k u ?_⟩
      simp only [look]
      rw [beq_false (fun e => by subst e; rw [h2] at hk; cases hk)]
      exact hk
  · rcases List.mem_cons.1 hj with e | e
    · subst e
      refine ⟨(Array.getElem?_eq_some_iff.1 ho).1, v, hV, fun d hd => ?_⟩
      rw [hoi] at hd
      obtain ⟨h1, _⟩ := slots_fresh hs (hoi.trans hd)
      rw [hd]
      exact (h.sat.put h1 v).get d v (by simp [look])
    · obtain ⟨hlt, u, hu, hd⟩ := h.vals j e
      have hne : j ≠ i := fun e' => hiS (e' ▸ e)
      refine ⟨hlt, u, hVV j u hne hu, fun d hdj => ?_⟩
      cases hod : o.dst with
      | none => exact hd d hdj
      | some d' =>
        have hdd : d' ≠ d := fun e' => hne (slots_ne hs hdj (hoi.trans (by rw [hod, e'])))
        simp only [Act.put, Array.getElem?_setIfInBounds, hdd, if_false]
        exact hd d hdj
  · rcases hD j hj with e | e
    · exact e ▸ .head _
    · exact .tail _ (h.done j e)
  · rcases List.mem_cons.1 hj with e | e
    · subst e; exact .tail _ (hdeps k hk)
    · exact .tail _ (h.closed j e k hk)
theorem exists_ready {S : List Nat} : ∀ {l T : List Nat}, orderOk ops l T = true → (∀ j, j ∈ T → j ∈ S) → (∃ i, i < ops.size ∧ i ∉ S) → ∃ i, i < ops.size ∧ readyB ops S i = true
  | [], T, h, hT, ⟨i, hi, hn⟩ => by
    simp only [orderOk, List.all_eq_true, List.mem_range] at h
    exact absurd (hT i (by simpa using h i hi)) hn
  | k :: l, T, h, hT, hex => by
    simp only [orderOk, Bool.and_eq_true] at h
    have hlt : k < ops.size := Nat.le_of_ble_eq_true h.1
    by_cases hk : k ∈ S
    · exact exists_ready h.2.2 (fun j hj => by rcases List.mem_cons.1 hj with e | e; exact e ▸ hk; exact hT j e) hex
    · refine ⟨k, hlt, ?_⟩
      unfold readyB
      rw [Array.getElem?_eq_getElem hlt]
      simp only [Bool.and_eq_true]
      refine ⟨by simpa using hk, Array.all_eq_true_iff_forall_mem.2 fun e he => ?_⟩
      by_cases hb : Region.binds .any e = true
      · have : e.on ∈ depsOf ops k := by
          unfold depsOf
          rw [Array.getElem?_eq_getElem hlt]
          exact List.mem_map.2 ⟨e, List.mem_filter.2 ⟨Array.mem_toList_iff.2 he, hb⟩, rfl⟩
        have h1 := List.all_eq_true.1 h.2.1 _ this
        have := hT _ (by simpa using h1)
        simp [this]
      · simp at hb; simp [hb]
/-- which operations may come while V is known: those that are known and quiet, and those of 'effs' -/
def covers (ops : Array Oper) (V : Env) (D qs effs : List Nat) : Bool :=
  (List.range ops.size).all fun i => D.contains i || qs.contains i || effs.contains i || (depsOf ops i).any fun j => (look V j).isNone
theorem mem_lt_of_short {S : List Nat} {n : Nat} (hl : S.length < n) : ∃ i, i < n ∧ i ∉ S := by
  refine Classical.byContradiction fun h => ?_
  have hall : ∀ i, i < n → i ∈ S := fun i hi => Classical.byContradiction fun hi' => h ⟨i, hi, hi'⟩
  have : (List.range n).length ≤ S.length := (List.nodup_range).length_le_of_subset fun i hi => hall i (List.mem_range.1 hi)
  rw [List.length_range] at this
  omega
/-- ONE PHASE: the quiet operations 'qs' whenever they come; then one of 'effs'. -/
theorem AR.phase (qs effs : List Nat) (ord : List Nat) (hord : orderOk ops ord [] = true) (hslots : slotsOk ops E N = true) (hcov : covers ops V D qs effs = true)
    (hq : ∀ i, i ∈ qs → ∃ o v, ops[i]? = some o ∧ look V i = some v ∧ ((wantedG ops (envD ops V (depsOf ops i) ++ E) o.guard = some true ∧ PV P (envD ops V (depsOf ops i) ++ E) M F o v) ∨ (wantedG ops (envD ops V (depsOf ops i) ++ E) o.guard = some false ∧ v = undef)))
    (he : ∀ i, i ∈ effs → look V i = none ∧ ∃ (o : Oper) (ι : Type) (val : ι → Value) (M' : ι → List HP) (F' : ι → List Fact), ops[i]? = some o ∧ wantedG ops (envD ops V (depsOf ops i) ++ E) o.guard = some true ∧
      EV P r Q (envD ops V (depsOf ops i) ++ E) M F o ι val M' F' ∧ ∀ x, AR P r N ops Q ((i, val x) :: V) (i :: D) E ds (M' x) (F' x))
    (hend : (∃ i, i < ops.size ∧ look V i = none) ∨ NX N .normal Q (envD ops V (List.range ops.size) ++ E) ds M F) : AR P r N ops Q V D E ds M F := by
  intro fuel
  induction fuel with
  | zero =>
    intro S a w hI hw hl
    have hall : ∀ i, i < ops.size → i ∈ S := fun i hi => Classical.byContradiction fun hn => by
      have h2 : (i :: S).length ≤ (List.range ops.size).length := (List.nodup_cons.2 ⟨hn, hI.nodup⟩).length_le_of_subset fun j hj => by
        rcases List.mem_cons.1 hj with e | e
        · exact List.mem_range.2 (e ▸ hi)
        · exact List.mem_range.2 (hI.vals j e).1
      rw [List.length_range, List.length_cons] at h2
      omega
    rcases hend with ⟨i, hi, hn⟩ | hend
    · obtain ⟨_, v, hv, _⟩ := hI.vals i (hall i hi)
      rw [hn] at hv; cases hv
    · exact hend a w (hI.sat_deps fun j hj => hall j (List.mem_range.1 hj)) hw
  | succ fuel ih =>
    intro S a w hI hw hl
    refine ⟨exists_ready hord (fun j hj => by cases hj) (mem_lt_of_short (by omega)), fun i hi hr => ?_⟩
    have hdeps := depsOf_ready hr
    have hsat := hI.sat_deps hdeps
    have hiS : i ∉ S := by
      unfold readyB at hr
      simp only [Bool.and_eq_true] at hr
      simpa using hr.1
    have hc := List.all_eq_true.1 hcov i (List.mem_range.2 hi)
    simp only [Bool.or_eq_true] at hc
    rcases hc with ((hc | hc) | hc) | hc
    · exact absurd (hI.done i (by simpa using hc)) hiS
    · obtain ⟨o, v, ho, hv, hx⟩ := hq i (by simpa using hc)
      have hnext : ∀ w', St w' M F → AO r P ops Q fuel (i :: S) (a.put o.dst v) w' := fun w' hw' =>
        ih (i :: S) _ w' (hI.put hslots ho hiS hdeps hv (fun j u _ h => h) (fun j hj => .inr hj)) hw' (by simp; omega)
      refine ⟨o, ho, ?_⟩
      rcases hx with ⟨hg, hnd, hp⟩ | ⟨hg, rfl⟩
      · rw [if_pos (hsat.wanted hg)]
        refine ⟨fun _ _ => trivial, ?_⟩
        rw [semAt_plain (r := (Wd r).round) a.eval o hnd, hp a.eval (fun x u h => hsat.eval h) w hw]
        exact hnext w hw
      · rw [hsat.wanted hg, if_neg (by simp)]
        exact hnext w hw
    · obtain ⟨hVn, o, ι, val, M', F', ho, hg, ⟨hnd, hev⟩, hk⟩ := he i (by simpa using hc)
      refine ⟨o, ho, ?_⟩
      rw [if_pos (hsat.wanted hg)]
      refine ⟨fun _ _ => trivial, ?_⟩
      rw [semAt_plain (r := (Wd r).round) a.eval o hnd]
      refine hev a w _ (fun x u h => hsat.eval h) hw fun x w' hw' => ?_
      refine hk x fuel (i :: S) _ w' (hI.put hslots ho hiS hdeps (by simp [look]) (fun j u hne h => ?_) (fun j hj => List.mem_cons.1 hj)) hw' (by simp; omega)
      simp only [look]
      rw [beq_false (fun e => hne e.symm)]
      exact h
    · obtain ⟨j, hj, hn⟩ := List.any_eq_true.1 hc
      obtain ⟨_, v, hv, _⟩ := hI.vals j (hdeps j hj)
      rw [hv] at hn
      cases hn
/-- A REGION THAT DRAWS ITS ORDER -/
theorem TR.draw {id : Nat} (hmix : P.follows .mixedOrders = true) (h : AR P r N ops Q [] [] E ds M F) : TR P r N (.region id ops true) Q E ds M F := fun a w ha hw => by
  refine wpIn_region_draw fun t => ?_
  have e : Region.schedule (P.follows .mixedOrders) ops t = lin ops ops.size t (Array.replicate ops.size false) := by
    unfold Region.schedule
    rw [hmix]
    simp only [Bool.true_or, if_true]
    unfold Region.linearise
    rw [go_lin]
    rfl
  rw [e]
  refine wp_any ops.size [] a _ t _ (h ops.size [] a _ ⟨ha, fun i hi => (by cases hi), fun i hi => (by cases hi), List.nodup_nil, fun i hi => (by cases hi)⟩ hw.drew rfl) (by simp) fun i => ?_
  simp only [Array.getD_eq_getD_getElem?, Array.getElem?_replicate]
  split <;> simp
end
end Go.GL
