/- Operations on maps of one's own. No condition; over every program. -/
import Derived.Test.YtdlpaojkkekdlaaMpb
import Derived.Test.YtdlpaojkkekdlaaOwn
namespace Go.GL
open Go.ChangeMaps (setBlock)
open Go.Maps (Keyed)
set_option linter.unusedVariables false
theorem mp_at {w : World} {M : List HP} {F : List Fact} {b i : Nat} {kvs : KV} (hw : St w M F) (hi : M[i]? = some (MpB b kvs)) : ∃ es clock, MpOk es clock kvs ∧ w.heap[b]? = some (.map es clock) := by
  obtain ⟨z, h⟩ := (hw.front hi).exOpen
  exact ⟨z.1.1, z.1.2, z.2, h.heap (i := 0) rfl⟩
theorem mp_turn {w : World} {M : List HP} {F : List Fact} {b i : Nat} {kvs kvs' : KV} {es' : Array MapEntry} {clock' : Nat} (hw : St w M F) (hi : M[i]? = some (MpB b kvs)) (h : MpOk es' clock' kvs') : St (setBlock w b (.map es' clock')) (M.set i (MpB b kvs')) F := by
  obtain ⟨z, h1⟩ := (hw.front hi).exOpen
  have hb : w.heap[b]? = some (.map z.1.1 z.1.2) := h1.heap (i := 0) rfl
  have hset := MapKept.heap_set (o' := .map es' clock') hb
  have h2 : St (setBlock w b (.map es' clock')) (Pts b (.map es' clock') :: M.eraseIdx i) F := St.putHeap (i := 0) (b := b) (o := .map z.1.1 z.1.2) h1 rfl rfl rfl rfl (by simp [setBlock]) hset.1 hset.2
  exact St.back hi (St.exClose (⟨(es', clock'), h⟩ : {z : Array MapEntry × Nat // MpOk z.1 z.2 kvs'}) h2)
theorem run_mapUpdate_ok {P : Program} {w : World} {t k e : TypeId} {es : Array MapEntry} {clock b : Nat} {kvs : KV} (h : MpOk es clock kvs) (hb : w.heap[b]? = some (.map es clock)) (ht : tyMap P t k e = true) {n : Int} (hn : I64 n) (v : Value) :
    ∃ es' clock', (Instr.mapUpdate t (.map (some b)) (.int .i64 n) v).run P w = .ok () (setBlock w b (.map es' clock')) ∧ MpOk es' clock' (kvSet kvs n v) ∧ ((∃ p, p ∈ kvs ∧ p.1 = n) → ∃ j e0, es.toList[j]? = some e0 ∧ e0.key = .int .i64 n ∧ es'.toList = es.toList.set j ⟨.int .i64 n, v, e0.born⟩ ∧ clock' = clock) := by
  obtain ⟨hm, hk⟩ := tyMap_is ht
  have hx := Maps.keyOf_int_mk hk (i64_wf hn)
  have K := tyMap_keyed ht
  rcases h.find (w := w) ht hn with ⟨h1, h2⟩ | ⟨j, e0, h1, h2, h3, h4⟩
  · refine ⟨es.push ⟨.int .i64 n, v, clock⟩, clock + 1, ?_, h.push hn h2, fun ⟨p, hp, e⟩ => absurd e (h2 p hp)⟩
    simp [Instr.mapUpdate, run_underlying hm, MapKept.run_getObj_map hb, K.check w false hx, h1, MapKept.run_setObj_map _ hb, Result.andThen, setBlock]
  · have hj : es[j]? = some e0 := by simpa using h2
    obtain ⟨hl, hok⟩ := h.modify (v := v) h2 h3 h4
    refine ⟨_, clock, ?_, hok, fun _ => ⟨j, e0, h2, h3, hl, rfl⟩⟩
    simp [Instr.mapUpdate, run_underlying hm, MapKept.run_getObj_map hb, K.check w false hx, h1, hj, h3, K.stays w hx, MapKept.run_setObj_map _ hb, Result.andThen, setBlock]
theorem run_delete_ok {P : Program} {w : World} {t k e : TypeId} {es : Array MapEntry} {clock b : Nat} {kvs : KV} (h : MpOk es clock kvs) (hb : w.heap[b]? = some (.map es clock)) (ht : tyMap P t k e = true) {n : Int} (hn : I64 n) (ts : Array TypeId) (hts : ts[0]? = some t) (ty : TypeId) :
    ∃ es', (Builtin.delete_ ts ty #[.map (some b), .int .i64 n]).run P w = .ok (.tuple #[]) (setBlock w b (.map es' clock)) ∧ MpOk es' clock (kvDel kvs n) := by
  obtain ⟨hm, hk⟩ := tyMap_is ht
  have hx := Maps.keyOf_int_mk hk (i64_wf hn)
  have K := tyMap_keyed ht
  rcases h.find (w := w) ht hn with ⟨h1, h2⟩ | ⟨j, e0, h1, h2, h3, h4⟩
  · refine ⟨es, ?_, by rw [kvDel_none h2]; exact h⟩
    simp [Builtin.delete_, hts, run_underlying hm, MapKept.run_getObj_map hb, K.check w _ hx, h1, MapKept.run_setObj_map _ hb, Result.andThen, setBlock]
  · refine ⟨_, ?_, h.erase h2 h4⟩
    simp [Builtin.delete_, hts, run_underlying hm, MapKept.run_getObj_map hb, K.check w _ hx, h1, MapKept.run_setObj_map _ hb, Result.andThen, setBlock]
theorem run_lookup_ok {P : Program} {w : World} {t k e : TypeId} {es : Array MapEntry} {clock b : Nat} {kvs : KV} (h : MpOk es clock kvs) (hb : w.heap[b]? = some (.map es clock)) (ht : tyMap P t k e = true) {n : Int} (hn : I64 n) {z : Value} (hz : (zeroValue e).run P w = .ok z w) :
    (Instr.lookup t (.map (some b)) (.int .i64 n) false).run P w = .ok ((kvGet kvs n).getD z) w := by
  obtain ⟨hm, hk⟩ := tyMap_is ht
  have hx := Maps.keyOf_int_mk hk (i64_wf hn)
  have K := tyMap_keyed ht
  rcases h.find (w := w) ht hn with ⟨h1, h2⟩ | ⟨j, e0, h1, h2, h3, h4⟩
  · rw [kvGet_none h2]
    simp [Instr.lookup, run_underlying hm, MapKept.run_getObj_map hb, K.check w _ hx, h1, hz, Result.andThen]
  · rw [(kv_at h.keys h4).1]
    simp [Instr.lookup, run_underlying hm, MapKept.run_getObj_map hb, K.check w _ hx, h1, Result.andThen]
/-! ### A range -/
structure RgOk (es : Array MapEntry) (clock since : Nat) (seen : Array Nat) (c0 : Nat) (kvs : KV) (left : List Int) (cur : Option Int) : Prop where
  ok : MpOk es clock kvs
  old : ∀ e, e ∈ es.toList → e.born < since
  sc : since ≤ c0
  sk : since ≤ clock
  rest : (leftOf es seen).toList.map (·.key) = left.map (Value.int .i64 ·)
  now : ∀ k, cur = some k → ∃ (e : MapEntry) (seen0 : Array Nat), e ∈ es.toList ∧ e.key = .int .i64 k ∧ seen = seen0.push e.born ∧ c0 = clock
structure RgX where
  es : Array MapEntry
  clock : Nat
  since : Nat
  seen : Array Nat
  c0 : Nat
def RgB (b r : Nat) (kvs : KV) (left : List Int) (cur : Option Int) : HP := Ex (ι := {z : RgX // RgOk z.es z.clock z.since z.seen z.c0 kvs left cur}) fun z => [Pts b (.map z.1.es z.1.clock), Pts r (.mapIter (some b) z.1.since z.1.seen z.1.c0)]
theorem ints_inj : ∀ {a b : List Int}, a.map (Value.int .i64 ·) = b.map (Value.int .i64 ·) → a = b
  | [], [], _ => rfl
  | [], _ :: _, h => by simp at h
  | _ :: _, [], h => by simp at h
  | x :: a, y :: b, h => by
    simp only [List.map_cons, List.cons.injEq, Value.int.injEq, true_and] at h
    rw [h.1, ints_inj h.2]
theorem rg_at {w : World} {M : List HP} {F : List Fact} {b r i : Nat} {kvs : KV} {left : List Int} {cur : Option Int} (hw : St w M F) (hi : M[i]? = some (RgB b r kvs left cur)) :
    ∃ z : RgX, RgOk z.es z.clock z.since z.seen z.c0 kvs left cur ∧ w.heap[b]? = some (.map z.es z.clock) ∧ w.heap[r]? = some (.mapIter (some b) z.since z.seen z.c0) ∧ St w (Pts b (.map z.es z.clock) :: Pts r (.mapIter (some b) z.since z.seen z.c0) :: M.eraseIdx i) F := by
  obtain ⟨z, h⟩ := (hw.front hi).exOpen
  exact ⟨z.1, z.2, h.heap (i := 0) rfl, h.heap (i := 1) rfl, h⟩
theorem rg_close {w : World} {M : List HP} {F : List Fact} {b r i : Nat} {p : HP} {kvs : KV} {left : List Int} {cur : Option Int} {z : RgX} (hi : M[i]? = some p) (hz : RgOk z.es z.clock z.since z.seen z.c0 kvs left cur) (h : St w (Pts b (.map z.es z.clock) :: Pts r (.mapIter (some b) z.since z.seen z.c0) :: M.eraseIdx i) F) : St w (M.set i (RgB b r kvs left cur)) F :=
  St.back hi (St.exClose (⟨z, hz⟩ : {z : RgX // RgOk z.es z.clock z.since z.seen z.c0 kvs left cur}) h)
theorem born_key {es : Array MapEntry} {clock : Nat} {kvs : KV} (h : MpOk es clock kvs) {x y : MapEntry} (hx : x ∈ es.toList) (hy : y ∈ es.toList) : x.born = y.born ↔ x.key = y.key := by
  obtain ⟨i, hi⟩ := List.mem_iff_getElem?.1 hx
  obtain ⟨j, hj⟩ := List.mem_iff_getElem?.1 hy
  constructor
  · intro e
    have h1 : (es.toList.map (·.born))[i]? = some x.born := by rw [List.getElem?_map, hi]; rfl
    have h2 : (es.toList.map (·.born))[j]? = some y.born := by rw [List.getElem?_map, hj]; rfl
    have := (List.getElem?_inj (List.getElem?_eq_some_iff.1 h1).1 h.born).1 (h1.trans ((congrArg some e).trans h2.symm))
    subst this
    rw [hi] at hj; cases hj; rfl
  · intro e
    obtain ⟨n, a1, a2⟩ := h.at hi
    obtain ⟨m, b1, b2⟩ := h.at hj
    have : n = m := by rw [a1, b1] at e; cases e; rfl
    subst this
    have h1 : (kvs.map Prod.fst)[i]? = some n := by rw [List.getElem?_map, a2]; rfl
    have h2 : (kvs.map Prod.fst)[j]? = some n := by rw [List.getElem?_map, b2]; rfl
    have := (List.getElem?_inj (List.getElem?_eq_some_iff.1 h1).1 h.keys).1 (h1.trans h2.symm)
    subst this
    rw [hi] at hj; cases hj; rfl
theorem mem_leftOf {es : Array MapEntry} {seen : Array Nat} {e : MapEntry} : e ∈ (leftOf es seen).toList ↔ e ∈ es.toList ∧ seen.contains e.born = false := by
  unfold leftOf
  rw [Array.toList_filter, List.mem_filter]
  simp
def keyIs (n : Int) : Value → Bool
  | .int .i64 m => decide (m = n)
  | _ => false
theorem keyIs_iff {n : Int} {v : Value} : keyIs n v = true ↔ v = .int .i64 n := by
  unfold keyIs
  split
  · simp
  · rename_i h
    simp only [Bool.false_eq_true, false_iff]
    exact fun e => h n e
theorem left_push {es : Array MapEntry} {clock : Nat} {kvs : KV} (h : MpOk es clock kvs) {seen : Array Nat} {e : MapEntry} {left : List Int} {n : Int} (he : e ∈ (leftOf es seen).toList) (hn : e.key = .int .i64 n) (hl : (leftOf es seen).toList.map (·.key) = left.map (Value.int .i64 ·)) :
    (leftOf es (seen.push e.born)).toList.map (·.key) = (left.filter fun x => !decide (x = n)).map (Value.int .i64 ·) := by
  have e1 : (leftOf es (seen.push e.born)).toList = (leftOf es seen).toList.filter fun x => !keyIs n x.key := by
    unfold leftOf
    rw [Array.toList_filter, Array.toList_filter, List.filter_filter]
    refine List.filter_congr fun x hx => ?_
    have hk := born_key h hx (mem_leftOf.1 he).1
    rw [hn, ← keyIs_iff] at hk
    have hc : (seen.push e.born).contains x.born = (seen.contains x.born || (x.born == e.born)) := by
      rw [Bool.eq_iff_iff]
      simp [Array.mem_push]
    rw [hc]
    have hb : (x.born == e.born) = keyIs n x.key := by
      rw [Bool.eq_iff_iff, ← hk]; simp
    rw [hb]
    cases seen.contains x.born <;> cases keyIs n x.key <;> rfl
  rw [e1]
  have e2 : ((leftOf es seen).toList.filter fun x => !keyIs n x.key).map (·.key) = ((leftOf es seen).toList.map (·.key)).filter fun v => !keyIs n v := by
    rw [List.filter_map]; rfl
  rw [e2, hl, List.filter_map]
  rfl
end Go.GL
