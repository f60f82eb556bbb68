/- Rules for the operations on maps. No condition; over every program. -/
import Derived.Test.YtdlpaojkkekdlaaMpc
namespace Go.GL
open Go.ChangeMaps (setBlock)
set_option linter.unusedVariables false
theorem rg_next {P : Program} {w : World} {M : List HP} {F : List Fact} {b r i : Nat} {kvs : KV} {left : List Int} {cur : Option Int} (ty : TypeId) (hw : St w M F) (hi : M[i]? = some (RgB b r kvs left cur)) :
    ∃ (o : {o : Option (Int × Value) // match o with | none => left = [] | some p => p.1 ∈ left ∧ p ∈ kvs}) (w' : World), (Instr.next (.pointer (some ⟨r, 0, none⟩)) false ty).run P w = .ok (match o.1 with | none => .tuple #[.bool false] | some p => .tuple #[.bool true, .int .i64 p.1, p.2]) w' ∧
      St w' (M.set i (match o.1 with | none => MpB b kvs | some p => RgB b r kvs (left.filter fun x => !decide (x = p.1)) (some p.1))) F := by
  obtain ⟨z, hz, hb, hr, hst⟩ := rg_at hw hi
  rcases run_next_at (P := P) w ty r b z.since z.c0 z.seen z.es z.clock hr hb hz.old hz.sc with ⟨h0, hrun⟩ | ⟨e, he, w1, hal, hrun⟩
  · have hl : left = [] := by
      have h1 := congrArg List.length hz.rest
      rw [List.length_map, List.length_map, Array.length_toList, h0] at h1
      exact List.eq_nil_of_length_eq_zero h1.symm
    refine ⟨⟨none, hl⟩, w, hrun, ?_⟩
    exact St.back hi (St.exClose (⟨(z.es, z.clock), hz.ok⟩ : {z : Array MapEntry × Nat // MpOk z.1 z.2 kvs}) (hst.drop 1 rfl))
  · have hem := (mem_leftOf.1 he).1
    obtain ⟨j, hj⟩ := List.mem_iff_getElem?.1 hem
    obtain ⟨n, hk, hkv⟩ := hz.ok.at hj
    have hnl : n ∈ left := by
      have h1 : e.key ∈ (leftOf z.es z.seen).toList.map (·.key) := List.mem_map_of_mem (f := fun x : MapEntry => x.key) he
      rw [hz.rest, hk] at h1
      obtain ⟨m, hm, e1⟩ := List.mem_map.1 h1
      simp only [Value.int.injEq, true_and] at e1
      exact e1 ▸ hm
    refine ⟨⟨some (n, e.val), hnl, List.mem_of_getElem? hkv⟩, _, by rw [hk] at hrun; exact hrun, ?_⟩
    have hst1 : St w1 (Pts b (.map z.es z.clock) :: Pts r (.mapIter (some b) z.since z.seen z.c0) :: M.eraseIdx i) F := by
      rcases hal with rfl | rfl
      · exact hst
      · exact hst.drew
    have hr1 : w1.heap[r]? = some (.mapIter (some b) z.since z.seen z.c0) := hst1.heap (i := 1) rfl
    have hset := MapKept.heap_set (o' := .mapIter (some b) z.since (z.seen.push e.born) z.clock) hr1
    have h2 : St (setBlock w1 r (.mapIter (some b) z.since (z.seen.push e.born) z.clock)) (Pts b (.map z.es z.clock) :: Pts r (.mapIter (some b) z.since (z.seen.push e.born) z.clock) :: M.eraseIdx i) F :=
      St.putHeap (i := 1) (b := r) (o := .mapIter (some b) z.since z.seen z.c0) hst1 rfl rfl rfl rfl (by simp [setBlock]) hset.1 hset.2
    exact rg_close (z := ⟨z.es, z.clock, z.since, z.seen.push e.born, z.clock⟩) hi ⟨hz.ok, hz.old, hz.sk, hz.sk, left_push hz.ok he hk hz.rest, fun k hk2 => by cases hk2; exact ⟨e, z.seen, hem, hk, rfl, rfl⟩⟩ h2
theorem rg_entry {P : Program} {w : World} {M : List HP} {F : List Fact} {b r i : Nat} {kvs : KV} {left : List Int} {n : Int} {v : Value} (hw : St w M F) (hi : M[i]? = some (RgB b r kvs left (some n))) (hv : (n, v) ∈ kvs) :
    (Instr.entry (.pointer (some ⟨r, 0, none⟩))).run P w = .ok (.tuple #[.int .i64 n, v]) w := by
  obtain ⟨z, hz, hb, hr, _⟩ := rg_at hw hi
  obtain ⟨e, seen0, he, hk, hs, hc⟩ := hz.now n rfl
  rw [hs, hc] at hr
  have h1 := run_entry_at (P := P) w r b z.since seen0 z.es z.clock e hr hb he hz.ok.born
  have hval : e.val = v := by
    obtain ⟨j, hj⟩ := List.mem_iff_getElem?.1 he
    obtain ⟨m, a1, a2⟩ := hz.ok.at hj
    have : m = n := by rw [hk] at a1; cases a1; rfl
    subst this
    obtain ⟨j2, hj2⟩ := List.mem_iff_getElem?.1 hv
    have e1 := (kv_at hz.ok.keys a2).1
    have e2 := (kv_at hz.ok.keys hj2).1
    rw [e1] at e2
    exact Option.some.inj e2
  rw [hk, hval] at h1
  exact h1
theorem rg_store {P : Program} {w : World} {M : List HP} {F : List Fact} {b r i : Nat} {t k e : TypeId} {kvs : KV} {left : List Int} {cur : Option Int} {n : Int} (ht : tyMap P t k e = true) (hn : I64 n) (hw : St w M F) (hi : M[i]? = some (RgB b r kvs left cur)) (hv : ∃ p, p ∈ kvs ∧ p.1 = n) (v : Value) :
    ∃ w', (Instr.mapUpdate t (.map (some b)) (.int .i64 n) v).run P w = .ok () w' ∧ St w' (M.set i (RgB b r (kvSet kvs n v) left none)) F := by
  obtain ⟨z, hz, hb, hr, hst⟩ := rg_at hw hi
  obtain ⟨es', clock', hrun, hok, hsame⟩ := run_mapUpdate_ok hz.ok hb ht hn v
  obtain ⟨j, e0, hj, hk0, hl, hc⟩ := hsame hv
  refine ⟨_, hrun, ?_⟩
  have hset := MapKept.heap_set (o' := .map es' clock') hb
  have h2 : St (setBlock w b (.map es' clock')) (Pts b (.map es' clock') :: Pts r (.mapIter (some b) z.since z.seen z.c0) :: M.eraseIdx i) F :=
    St.putHeap (i := 0) (b := b) (o := .map z.es z.clock) hst rfl rfl rfl rfl (by simp [setBlock]) hset.1 hset.2
  have hmem : ∀ x, x ∈ es'.toList → ∃ y, y ∈ z.es.toList ∧ y.born = x.born := by
    intro x hx
    rw [hl] at hx
    rcases List.mem_or_eq_of_mem_set hx with h | h
    · exact ⟨x, h, rfl⟩
    · subst h; exact ⟨e0, List.mem_of_getElem? hj, rfl⟩
  have hrest : (leftOf es' z.seen).toList.map (·.key) = (leftOf z.es z.seen).toList.map (·.key) := by
    unfold leftOf
    rw [Array.toList_filter, Array.toList_filter, hl]
    have aux : ∀ (l : List MapEntry) (j : Nat), l[j]? = some e0 → ((l.set j ⟨.int .i64 n, v, e0.born⟩).filter fun e => !z.seen.contains e.born).map (·.key) = (l.filter fun e => !z.seen.contains e.born).map (·.key) := by
      intro l
      induction l with
      | nil => intro j h; simp at h
      | cons x l ih =>
        intro j h
        cases j with
        | zero =>
          simp at h; subst h
          rw [List.set_cons_zero, List.filter_cons, List.filter_cons]
          show List.map _ (if (!z.seen.contains x.born) = true then _ else _) = _
          split
          · rw [List.map_cons, List.map_cons, hk0]
          · rfl
        | succ j =>
          rw [List.set_cons_succ, List.filter_cons, List.filter_cons]
          have := ih j (by simpa using h)
          split
          · rw [List.map_cons, List.map_cons, this]
          · exact this
    exact aux _ _ hj
  refine rg_close (z := ⟨es', clock', z.since, z.seen, z.c0⟩) hi ⟨hok, fun x hx => ?_, hz.sc, by show z.since ≤ clock'; rw [hc]; exact hz.sk, by rw [hrest]; exact hz.rest, fun k hk => by cases hk⟩ h2
  obtain ⟨y, hy, hb2⟩ := hmem x hx
  rw [← hb2]; exact hz.old y hy
section
variable {P : Program} {r : Option Nat} {N : Nat} {ops : Array Oper} {rest : List Oper} {Q : Exit → Act → World → Prop} {E : Env} {ds : List Deferred} {M : List HP} {F : List Fact}
variable {d : Nat} {ty : TypeId} {pos : String} {aft : Array Edge} {gd : Option (Nat × Bool)}
theorem GV.makeMap {t : TypeId} : GV P E M F ⟨some d, .makeMap t none, ty, pos, aft, gd⟩ Nat (fun b => .map (some b)) (fun b => MpB b [] :: M) (fun _ => F) := ⟨rfl, fun ρ hρ w hw => by
  have hrun : (Instr.makeMap t none).run P w = .ok (.map (some w.heap.size)) (w.alloc (.map #[] 0)) := rfl
  refine ⟨w.heap.size, w.alloc (.map #[] 0), by simp [execOp, hrun], ?_⟩
  exact St.exClose (⟨(#[], 0), MpOk.nil⟩ : {z : Array MapEntry × Nat // MpOk z.1 z.2 []}) (hw.alloc (.map #[] 0))⟩
theorem PV.lookup {t k e : TypeId} {x y : Operand} {b : Nat} {n : Int} {z : Value} {kvs : KV} (i : Nat) (ht : tyMap P t k e = true) (hx : evalO E x = some (.map (some b))) (hy : evalO E y = some (I n)) (hn : I64 n) (hi : M[i]? = some (MpB b kvs)) (hz : ∀ w, (zeroValue e).run P w = .ok z w) :
    PV P E M F ⟨some d, .lookup t x y false, ty, pos, aft, gd⟩ ((kvGet kvs n).getD z) := ⟨rfl, fun ρ hρ w hw => by
  obtain ⟨es, clock, h, hb⟩ := mp_at hw hi
  have h1 := run_lookup_ok h hb ht hn (hz w)
  simp [execOp, hρ _ _ hx, hρ _ _ hy, h1]⟩
theorem RL.lookup {t k e : TypeId} {x y : Operand} {b : Nat} {n : Int} {z : Value} {kvs : KV} (i : Nat) (hg : wantedG ops E gd = some true) (ht : tyMap P t k e = true) (hx : evalO E x = some (.map (some b))) (hy : evalO E y = some (I n)) (hn : I64 n) (hi : M[i]? = some (MpB b kvs)) (hz : ∀ w, (zeroValue e).run P w = .ok z w) (hN : Nat.ble (d + 1) N = true)
    (k : RL P r N ops rest Q ((d, (kvGet kvs n).getD z) :: E) ds M F) : RL P r N ops (⟨some d, .lookup t x y false, ty, pos, aft, gd⟩ :: rest) Q E ds M F :=
  RL.val rfl hg hN (PV.lookup i ht hx hy hn hi hz).2 k
theorem EV.mapUpdate {t k e : TypeId} {x y u : Operand} {b : Nat} {n : Int} {v : Value} {kvs : KV} (i : Nat) (ht : tyMap P t k e = true) (hx : evalO E x = some (.map (some b))) (hy : evalO E y = some (I n)) (hu : evalO E u = some v) (hn : I64 n) (hi : M[i]? = some (MpB b kvs)) :
    EV P r Q E M F ⟨none, .mapUpdate t x y u, ty, pos, aft, gd⟩ Unit (fun _ => undef) (fun _ => M.set i (MpB b (kvSet kvs n v))) (fun _ => F) :=
  EV.of_eff rfl fun ρ hρ w hw => by
    obtain ⟨es, clock, h, hb⟩ := mp_at hw hi
    obtain ⟨es', clock', hrun, hok, _⟩ := run_mapUpdate_ok h hb ht hn v
    exact ⟨_, by simp [execOp, hρ _ _ hx, hρ _ _ hy, hρ _ _ hu, hrun], mp_turn hw hi hok⟩
theorem EV.rangeUpdate {t k e : TypeId} {x y u : Operand} {b q : Nat} {n : Int} {v : Value} {kvs : KV} {left : List Int} {cur : Option Int} (i : Nat) (ht : tyMap P t k e = true) (hx : evalO E x = some (.map (some b))) (hy : evalO E y = some (I n)) (hu : evalO E u = some v) (hn : I64 n) (hi : M[i]? = some (RgB b q kvs left cur)) (hv : ∃ p, p ∈ kvs ∧ p.1 = n) :
    EV P r Q E M F ⟨none, .mapUpdate t x y u, ty, pos, aft, gd⟩ Unit (fun _ => undef) (fun _ => M.set i (RgB b q (kvSet kvs n v) left none)) (fun _ => F) :=
  EV.of_eff rfl fun ρ hρ w hw => by
    obtain ⟨w', hrun, hst⟩ := rg_store ht hn hw hi hv v
    exact ⟨_, by simp [execOp, hρ _ _ hx, hρ _ _ hy, hρ _ _ hu, hrun], hst⟩
theorem EV.delete {t k e : TypeId} {aty : Array TypeId} {x y : Operand} {b : Nat} {n : Int} {kvs : KV} (i : Nat) (ht : tyMap P t k e = true) (hx : evalO E x = some (.map (some b))) (hy : evalO E y = some (I n)) (hn : I64 n) (hi : M[i]? = some (MpB b kvs)) (hT : aty[0]? = some t := by rfl) :
    EV P r Q E M F ⟨none, .call ⟨.builtin .delete, #[x, y], aty⟩, ty, pos, aft, gd⟩ Unit (fun _ => .tuple #[]) (fun _ => M.set i (MpB b (kvDel kvs n))) (fun _ => F) :=
  EV.of_gen rfl fun ρ hρ w hw => by
    obtain ⟨es, clock, h, hb⟩ := mp_at hw hi
    obtain ⟨es', hrun, hok⟩ := run_delete_ok h hb ht hn aty hT ty
    exact ⟨(), _, by simp [execOp, resolve, hρ _ _ hx, hρ _ _ hy, invoke, builtin, hrun], mp_turn hw hi hok⟩
theorem GV.range {t k e : TypeId} {x : Operand} {b : Nat} {kvs : KV} (i : Nat) (ht : tyMap P t k e = true) (hx : evalO E x = some (.map (some b))) (hi : M[i]? = some (MpB b kvs)) :
    GV P E M F ⟨some d, .range t x, ty, pos, aft, gd⟩ Nat (fun q => .pointer (some ⟨q, 0, none⟩)) (fun q => M.set i (RgB b q kvs (kvs.map Prod.fst) none)) (fun _ => F) := ⟨rfl, fun ρ hρ w hw => by
  obtain ⟨z, h1⟩ := (hw.front hi).exOpen
  have hb : w.heap[b]? = some (.map z.1.1 z.1.2) := h1.heap (i := 0) rfl
  have hrun := run_range_map (P := P) w t k e b z.1.1 z.1.2 (tyMap_is ht).1 hb
  refine ⟨w.heap.size, w.alloc (.mapIter (some b) z.1.2 #[] z.1.2), by simp [execOp, hρ _ _ hx, hrun], ?_⟩
  have h2 := h1.alloc (.mapIter (some b) z.1.2 #[] z.1.2)
  have h3 : St _ (Pts b (.map z.1.1 z.1.2) :: Pts w.heap.size (.mapIter (some b) z.1.2 #[] z.1.2) :: M.eraseIdx i) F := h2.perm (.swap _ _ _)
  refine rg_close (z := ⟨z.1.1, z.1.2, z.1.2, #[], z.1.2⟩) hi ⟨z.2, z.2.past, Nat.le_refl _, Nat.le_refl _, ?_, fun k hk => by cases hk⟩ h3
  have e1 : (leftOf z.1.1 #[]).toList = z.1.1.toList := by unfold leftOf; simp
  have e2 := congrArg (List.map Prod.fst) z.2.kv
  rw [List.map_map, List.map_map] at e2
  rw [e1, List.map_map]
  exact e2⟩
theorem GV.next {x : Operand} {b q : Nat} {kvs : KV} {left : List Int} {cur : Option Int} (i : Nat) (hx : evalO E x = some (.pointer (some ⟨q, 0, none⟩))) (hi : M[i]? = some (RgB b q kvs left cur)) :
    GV P E M F ⟨some d, .next x false, ty, pos, aft, gd⟩ {o : Option (Int × Value) // match o with | none => left = [] | some p => p.1 ∈ left ∧ p ∈ kvs} (fun o => match o.1 with | none => .tuple #[.bool false] | some p => .tuple #[.bool true, .int .i64 p.1, p.2])
      (fun o => M.set i (match o.1 with | none => MpB b kvs | some p => RgB b q kvs (left.filter fun x => !decide (x = p.1)) (some p.1))) (fun _ => F) := ⟨rfl, fun ρ hρ w hw => by
  obtain ⟨o, w', hrun, hst⟩ := rg_next (P := P) ty hw hi
  exact ⟨o, w', by simp [execOp, hρ _ _ hx, hrun], hst⟩⟩
theorem RL.entry {x : Operand} {b q : Nat} {kvs : KV} {left : List Int} {n : Int} {v : Value} (i : Nat) (hg : wantedG ops E gd = some true) (hx : evalO E x = some (.pointer (some ⟨q, 0, none⟩))) (hi : M[i]? = some (RgB b q kvs left (some n))) (hv : (n, v) ∈ kvs) (hN : Nat.ble (d + 1) N = true)
    (k : RL P r N ops rest Q ((d, .tuple #[I n, v]) :: E) ds M F) : RL P r N ops (⟨some d, .entry x, ty, pos, aft, gd⟩ :: rest) Q E ds M F :=
  RL.val rfl hg hN (fun ρ hρ w hw => by
    have h1 := rg_entry (P := P) hw hi hv
    simp [execOp, hρ _ _ hx, h1]) k
end
end Go.GL
