/- Maps of one's own with whole numbers as keys, and a range over one. No condition; over every program. -/
import Derived.Test.YtdlpaojkkekdlaaApk
import Derived.Maps.RangeRun
import Derived.Maps.Keyed
import Derived.Carry
namespace Go.GL
open Go.ChangeMaps (setBlock)
open Go.Maps (Keyed)
set_option linter.unusedVariables false
abbrev KV := List (Int × Value)
def tyMap (P : Program) (t k e : TypeId) : Bool := match P.underlying t, P.underlying k with | some (.map k' e'), some (.int .i64) => decide (k' = k ∧ e' = e) | _, _ => false
theorem tyMap_is {P : Program} {t k e : TypeId} (h : tyMap P t k e = true) : P.underlying t = some (.map k e) ∧ P.underlying k = some (.int .i64) := by
  unfold tyMap at h
  split at h
  · rename_i k' e' h1 h2
    have := of_decide_eq_true h
    obtain ⟨rfl, rfl⟩ := this
    exact ⟨h1, h2⟩
  · cases h
theorem tyMap_keyed {P : Program} {t k e : TypeId} (h : tyMap P t k e = true) : Keyed P k := Maps.int_keyed (tyMap_is h).2
def I64 (n : Int) : Prop := -9223372036854775808 ≤ n ∧ n ≤ 9223372036854775807
theorem i64_wf {n : Int} (h : I64 n) : (Lit.int .i64 n).wf = true := by
  simp [Lit.wf, IntKind.min, IntKind.max, IntKind.signed, IntKind.bits]
  exact ⟨h.1, h.2⟩
/-! ### Lists of entries -/
def kvGet : KV → Int → Option Value
  | [], _ => none
  | p :: l, k => if p.1 = k then some p.2 else kvGet l k
def kvSet : KV → Int → Value → KV
  | [], k, v => [(k, v)]
  | p :: l, k, v => if p.1 = k then (k, v) :: l else p :: kvSet l k v
def kvDel : KV → Int → KV
  | [], _ => []
  | p :: l, k => if p.1 = k then l else p :: kvDel l k
theorem kvGet_none : ∀ {l : KV} {k : Int}, (∀ p, p ∈ l → p.1 ≠ k) → kvGet l k = none
  | [], _, _ => rfl
  | p :: l, k, h => by rw [kvGet, if_neg (h p (.head _))]; exact kvGet_none fun q hq => h q (.tail _ hq)
theorem kvSet_new : ∀ {l : KV} {k : Int} {v : Value}, (∀ p, p ∈ l → p.1 ≠ k) → kvSet l k v = l ++ [(k, v)]
  | [], _, _, _ => rfl
  | p :: l, k, v, h => by rw [kvSet, if_neg (h p (.head _)), kvSet_new fun q hq => h q (.tail _ hq)]; rfl
theorem kvDel_none : ∀ {l : KV} {k : Int}, (∀ p, p ∈ l → p.1 ≠ k) → kvDel l k = l
  | [], _, _ => rfl
  | p :: l, k, h => by rw [kvDel, if_neg (h p (.head _)), kvDel_none fun q hq => h q (.tail _ hq)]
theorem kv_at : ∀ {l : KV} {k : Int} {j : Nat} {v0 : Value}, (l.map Prod.fst).Nodup → l[j]? = some (k, v0) → kvGet l k = some v0 ∧ (∀ v, kvSet l k v = l.set j (k, v)) ∧ kvDel l k = l.eraseIdx j
  | [], _, _, _, _, h => by simp at h
  | p :: l, k, 0, v0, _, h => by
    simp at h; subst h
    exact ⟨by rw [kvGet, if_pos rfl], fun v => by rw [kvSet, if_pos rfl]; rfl, by rw [kvDel, if_pos rfl]; rfl⟩
  | p :: l, k, j + 1, v0, hn, h => by
    have h1 : l[j]? = some (k, v0) := by simpa using h
    rw [List.map_cons, List.nodup_cons] at hn
    have hne : p.1 ≠ k := fun e => hn.1 (e ▸ List.mem_map_of_mem (f := Prod.fst) (List.mem_of_getElem? h1))
    obtain ⟨a, b, c⟩ := kv_at hn.2 h1
    exact ⟨by rw [kvGet, if_neg hne, a], fun v => by rw [kvSet, if_neg hne, b]; rfl, by rw [kvDel, if_neg hne, c]; rfl⟩
/-! ### The map's block -/
structure MpOk (es : Array MapEntry) (clock : Nat) (kvs : KV) : Prop where
  kv : es.toList.map (fun e => (e.key, e.val)) = kvs.map fun p => (Value.int .i64 p.1, p.2)
  keys : (kvs.map Prod.fst).Nodup
  fits : ∀ p, p ∈ kvs → I64 p.1
  born : (es.toList.map (·.born)).Nodup
  past : ∀ e, e ∈ es.toList → e.born < clock
def MpB (b : Nat) (kvs : KV) : HP := Ex (ι := {z : Array MapEntry × Nat // MpOk z.1 z.2 kvs}) fun z => [Pts b (.map z.1.1 z.1.2)]
theorem MpOk.len {es : Array MapEntry} {clock : Nat} {kvs : KV} (h : MpOk es clock kvs) : es.size = kvs.length := by
  have := congrArg List.length h.kv
  simpa using this
theorem MpOk.at {es : Array MapEntry} {clock : Nat} {kvs : KV} (h : MpOk es clock kvs) {j : Nat} {e : MapEntry} (he : es.toList[j]? = some e) : ∃ n, e.key = .int .i64 n ∧ kvs[j]? = some (n, e.val) := by
  have h1 := congrArg (fun l : List (Value × Value) => l[j]?) h.kv
  simp only [List.getElem?_map, he, Option.map_some] at h1
  cases hk : kvs[j]? with
  | none => rw [hk] at h1; cases h1
  | some p =>
    rw [hk] at h1
    simp only [Option.map_some, Option.some.injEq, Prod.mk.injEq] at h1
    exact ⟨p.1, h1.1, by rw [h1.2]⟩
theorem MpOk.back {es : Array MapEntry} {clock : Nat} {kvs : KV} (h : MpOk es clock kvs) {p : Int × Value} (hp : p ∈ kvs) : ∃ e, e ∈ es.toList ∧ e.key = .int .i64 p.1 ∧ e.val = p.2 := by
  have h1 : (Value.int .i64 p.1, p.2) ∈ es.toList.map (fun e => (e.key, e.val)) := by rw [h.kv]; exact List.mem_map_of_mem (f := fun p : Int × Value => (Value.int .i64 p.1, p.2)) hp
  obtain ⟨e, he, h2⟩ := List.mem_map.1 h1
  simp only [Prod.mk.injEq] at h2
  exact ⟨e, he, h2.1, h2.2⟩
theorem MpOk.find {P : Program} {w : World} {t k e : TypeId} {es : Array MapEntry} {clock : Nat} {kvs : KV} (h : MpOk es clock kvs) (ht : tyMap P t k e = true) {n : Int} (hn : I64 n) :
    ((Instr.findKey k (.int .i64 n) es.toList).run P w = .ok none w ∧ ∀ p, p ∈ kvs → p.1 ≠ n) ∨ ∃ j e0, (Instr.findKey k (.int .i64 n) es.toList).run P w = .ok (some (j, e0.val)) w ∧ es.toList[j]? = some e0 ∧ e0.key = .int .i64 n ∧ kvs[j]? = some (n, e0.val) := by
  obtain ⟨hm, hk⟩ := tyMap_is ht
  have hx := Maps.keyOf_int_mk hk (i64_wf hn)
  have hes : ∀ e ∈ es.toList, ∃ l, keyOf P k e.key = some l := by
    intro e0 he
    obtain ⟨j, hj⟩ := List.mem_iff_getElem?.1 he
    obtain ⟨m, h1, h2⟩ := h.at hj
    exact ⟨_, by rw [h1]; exact Maps.keyOf_int_mk hk (i64_wf (h.fits _ (List.mem_of_getElem? h2)))⟩
  rcases (tyMap_keyed ht).find w hx es.toList hes with ⟨h1, h2⟩ | ⟨j, e0, h1, h2, h3⟩
  · refine .inl ⟨h1, fun p hp e => ?_⟩
    obtain ⟨e0, he, h3, _⟩ := h.back hp
    exact h2 e0 he (by rw [h3, e])
  · obtain ⟨m, h4, h5⟩ := h.at h2
    have : m = n := by rw [h3] at h4; cases h4; rfl
    subst this
    exact .inr ⟨j, e0, h1, h2, h3, h5⟩
theorem MpOk.nil : MpOk #[] 0 [] := ⟨rfl, List.nodup_nil, fun p hp => absurd hp (by simp), List.nodup_nil, fun e he => absurd he (by simp)⟩
theorem MpOk.push {es : Array MapEntry} {clock : Nat} {kvs : KV} (h : MpOk es clock kvs) {n : Int} {v : Value} (hn : I64 n) (hnew : ∀ p, p ∈ kvs → p.1 ≠ n) : MpOk (es.push ⟨.int .i64 n, v, clock⟩) (clock + 1) (kvSet kvs n v) := by
  rw [kvSet_new hnew]
  refine ⟨by rw [Array.toList_push, List.map_append, List.map_append, h.kv]; rfl, ?_, ?_, ?_, ?_⟩
  · rw [List.map_append, List.nodup_append]
    refine ⟨h.keys, by simp, fun a ha b hb => ?_⟩
    obtain ⟨p, hp, rfl⟩ := List.mem_map.1 ha
    simp at hb; subst hb
    exact hnew p hp
  · intro p hp
    rcases List.mem_append.1 hp with h1 | h1
    · exact h.fits p h1
    · simp at h1; subst h1; exact hn
  · rw [Array.toList_push, List.map_append, List.nodup_append]
    refine ⟨h.born, by simp, fun a ha b hb => ?_⟩
    obtain ⟨x, hx, rfl⟩ := List.mem_map.1 ha
    simp at hb; subst hb
    have := h.past x hx; omega
  · intro e he
    rw [Array.toList_push] at he
    rcases List.mem_append.1 he with h1 | h1
    · have := h.past e h1; omega
    · simp at h1; subst h1; show clock < clock + 1; omega
theorem map_set_fst {l : KV} {j : Nat} {n : Int} {v0 v : Value} (h : l[j]? = some (n, v0)) : (l.set j (n, v)).map Prod.fst = l.map Prod.fst := by
  rw [List.map_set]
  refine List.ext_getElem? fun i => ?_
  rw [List.getElem?_set]
  split
  · rename_i e; subst e
    split
    · rw [List.getElem?_map, h]; rfl
    · rename_i h2; rw [List.getElem?_eq_none (by omega)]
  · rfl
theorem MpOk.modify {es : Array MapEntry} {clock : Nat} {kvs : KV} (h : MpOk es clock kvs) {j : Nat} {e0 : MapEntry} {n : Int} {v : Value} (hj : es.toList[j]? = some e0) (hk : e0.key = .int .i64 n) (hkv : kvs[j]? = some (n, e0.val)) :
    (es.modify j fun e => { e with key := .int .i64 n, val := v }).toList = es.toList.set j ⟨.int .i64 n, v, e0.born⟩ ∧ MpOk (es.modify j fun e => { e with key := .int .i64 n, val := v }) clock (kvSet kvs n v) := by
  have hl : (es.modify j fun e => { e with key := .int .i64 n, val := v }).toList = es.toList.set j ⟨.int .i64 n, v, e0.born⟩ := by
    rw [Array.toList_modify]
    refine List.ext_getElem? fun i => ?_
    rw [List.getElem?_modify, List.getElem?_set]
    by_cases e : j = i
    · subst e
      rw [hj, if_pos rfl, if_pos (List.getElem?_eq_some_iff.1 hj).1]; simp
    · simp [e]
  have hs := (kv_at h.keys hkv).2.1 v
  refine ⟨hl, ⟨?_, ?_, ?_, ?_, ?_⟩⟩
  · rw [hl, hs, List.map_set, List.map_set, h.kv]
  · rw [hs, map_set_fst hkv]; exact h.keys
  · intro p hp
    rw [hs] at hp
    rcases List.mem_or_eq_of_mem_set hp with h1 | h1
    · exact h.fits p h1
    · subst h1; exact h.fits (n, e0.val) (List.mem_of_getElem? hkv)
  · rw [hl]
    have : (es.toList.set j ⟨.int .i64 n, v, e0.born⟩).map (·.born) = es.toList.map (·.born) := by
      rw [List.map_set]
      refine List.ext_getElem? fun i => ?_
      rw [List.getElem?_set]
      split
      · rename_i e; subst e
        split
        · rw [List.getElem?_map, hj]; rfl
        · rename_i h2; rw [List.getElem?_eq_none (by omega)]
      · rfl
    rw [this]; exact h.born
  · intro e he
    rw [hl] at he
    rcases List.mem_or_eq_of_mem_set he with h1 | h1
    · exact h.past e h1
    · subst h1; exact h.past e0 (List.mem_of_getElem? hj)
theorem MpOk.erase {es : Array MapEntry} {clock : Nat} {kvs : KV} (h : MpOk es clock kvs) {j : Nat} {e0 : MapEntry} {n : Int} (hj : es.toList[j]? = some e0) (hkv : kvs[j]? = some (n, e0.val)) : MpOk (es.eraseIdxIfInBounds j) clock (kvDel kvs n) := by
  have hl : (es.eraseIdxIfInBounds j).toList = es.toList.eraseIdx j := by
    have hlt := (List.getElem?_eq_some_iff.1 hj).1
    simp at hlt
    simp [Array.eraseIdxIfInBounds, hlt]
  have hs := (kv_at h.keys hkv).2.2
  rw [hs]
  refine ⟨?_, ?_, fun p hp => h.fits p (List.mem_of_mem_eraseIdx hp), ?_, ?_⟩
  · rw [hl, ChangeMaps.map_eraseIdx, ChangeMaps.map_eraseIdx, h.kv]
  · rw [ChangeMaps.map_eraseIdx]; exact h.keys.sublist (List.eraseIdx_sublist _ _)
  · rw [hl, ChangeMaps.map_eraseIdx]; exact h.born.sublist (List.eraseIdx_sublist _ _)
  · intro e he; rw [hl] at he; exact h.past e (List.mem_of_mem_eraseIdx he)
end Go.GL
