/- Lemmas and walks for the proof of RunJ: texts one behind the other. No condition. -/
import Derived.WideLaws
import Derived.DefersIn
import Derived.Laws.OwnMore
import Derived.Deep.Slices
import Derived.Test.YtkdeopioelocnaaRuxb
set_option linter.unusedVariables false
set_option linter.unusedSimpArgs false
namespace Go.GL
set_option linter.unusedVariables false
theorem run_lookupC {P : Program} {w : World} {t k e : TypeId} {es : Array MapEntry} {clock b : Nat} {kvs : KV} (h : MpOk es clock kvs) (hb : w.heap[b]? = some (.map es clock)) (ht : tyMap P t k e = true) {n : Int} (hn : I64 n) {z : Value} (hz : (zeroValue e).run P w = .ok z w) :
    (Instr.lookup t (.map (some b)) (.int .i64 n) true).run P w = .ok (.tuple #[(kvGet kvs n).getD z, .bool (kvGet kvs n).isSome]) w := by
  obtain ⟨hm, hk⟩ := tyMap_is ht
  have hx := Maps.keyOf_int_mk hk (i64_wf hn)
  have K := tyMap_keyed ht
  rcases h.find (w := w) ht hn with ⟨h1, h2⟩ | ⟨j, e0, h1, h2, h3, h4⟩
  · rw [kvGet_none h2]
    simp [Instr.lookup, run_underlying hm, MapKept.run_getObj_map hb, K.check w _ hx, h1, hz, Result.andThen]
  · rw [(kv_at h.keys h4).1]
    simp [Instr.lookup, run_underlying hm, MapKept.run_getObj_map hb, K.check w _ hx, h1, Result.andThen]
theorem own_take {w : World} {M : List HP} {F : List Fact} {e size n cap : Nat} {oa : Option Addr} {xs : List Value} (k : Nat) (hk : k ≤ n) (h : St w (OwnSl e size oa n cap xs :: M) F) (h0 : oa ≠ none) : St w (OwnSl e size oa k cap (xs.take (k * size)) :: M) F := by
  refine h.turn rfl rfl rfl (Nat.le_refl _) fun K hK => ?_
  have hxl := hK.1.1
  refine ⟨K, ⟨⟨?_, ?_⟩, hK.2⟩, ?_, fun c hc => .inl hc, fun c _ _ => rfl⟩
  · rw [List.length_take, hxl]; exact Nat.min_eq_left (Nat.mul_le_mul_right _ hk)
  · rcases hK.1.2 with ⟨hn, _⟩ | ⟨g, c, cur, hs, h2, hg, hnc, hcm, hcs, htk⟩
    · simp only [Value.slice.injEq] at hn; exact absurd hn.1 h0
    · simp only [Value.slice.injEq] at hs
      obtain ⟨rfl, _, rfl⟩ := hs
      refine .inr ⟨g, _, cur, rfl, h2, hg, by omega, hcm, hcs, ?_⟩
      rw [← htk, List.take_take, Nat.min_eq_left (Nat.mul_le_mul_right _ hk)]
  · rw [hK.2]; cases oa <;> simp
section
variable {P : Program} {r : Option Nat} {N : Nat} {ops : Array Oper} {rest : List Oper} {Q : Exit → Act → World → Prop} {E : Env} {ds : List Deferred} {M : List HP} {F : List Fact}
variable {d : Nat} {ty : TypeId} {pos : String} {aft : Array Edge} {gd : Option (Nat × Bool)}
theorem PV.lookupC {t k e : TypeId} {x y : Operand} {b : Nat} {n : Int} {z : Value} {kvs : KV} (i : Nat) (ht : tyMap P t k e = true) (hx : evalO E x = some (.map (some b))) (hy : evalO E y = some (I n)) (hn : I64 n) (hi : M[i]? = some (MpB b kvs)) (hz : ∀ w, (zeroValue e).run P w = .ok z w) :
    PV P E M F ⟨some d, .lookup t x y true, ty, pos, aft, gd⟩ (.tuple #[(kvGet kvs n).getD z, .bool (kvGet kvs n).isSome]) := ⟨rfl, fun ρ hρ w hw => by
  obtain ⟨es, clock, h, hb⟩ := mp_at hw hi
  have h1 := run_lookupC h hb ht hn (hz w)
  simp [execOp, hρ _ _ hx, hρ _ _ hy, h1]⟩
theorem PV.lenMap {t k e : TypeId} {x : Operand} {b : Nat} {kvs : KV} {aty : Array TypeId} (i : Nat) (ht : tyMap P t k e = true) (hx : evalO E x = some (.map (some b))) (hi : M[i]? = some (MpB b kvs)) (hT : aty = #[t] := by rfl) :
    PV P E M F ⟨some d, .call ⟨.builtin .len, #[x], aty⟩, ty, pos, aft, gd⟩ (I (kvs.length : Nat)) := ⟨rfl, fun ρ hρ w hw => by
  subst hT
  obtain ⟨es, clock, h, hb⟩ := mp_at hw hi
  have hm := (tyMap_is ht).1
  have h1 : (Builtin.len_ #[t] ty #[.map (some b)]).run P w = .ok (goInt es.size) w := by
    simp [Builtin.len_, run_underlying hm, run_getObj_map w b es clock hb]
  rw [h.len] at h1
  simp [execOp, resolve, hρ _ _ hx, invoke, builtin, h1, goInt]⟩
theorem RL.lenMap {t k e : TypeId} {x : Operand} {b : Nat} {kvs : KV} {aty : Array TypeId} (i : Nat) (hg : wantedG ops E gd = some true) (ht : tyMap P t k e = true) (hx : evalO E x = some (.map (some b))) (hi : M[i]? = some (MpB b kvs)) (hN : Nat.ble (d + 1) N = true)
    (kk : RL P r N ops rest Q ((d, I (kvs.length : Nat)) :: E) ds M F) (hT : aty = #[t] := by rfl) : RL P r N ops (⟨some d, .call ⟨.builtin .len, #[x], aty⟩, ty, pos, aft, gd⟩ :: rest) Q E ds M F :=
  RL.val rfl hg hN (PV.lenMap i ht hx hi hT).2 kk
theorem EV.copyDown {T1 T2 e size n cap b k : Nat} {oa : Option Addr} {xs : List Value} {x y : Operand} (i : Nat) (ht : tySlice P T1 e = true) (hz : tySize P e size = true) (hx : evalO E x = some (.slice oa n cap)) (hy : evalO E y = some (.slice (cutA oa k cap size) (n - k) (cap - k))) (hi : M[i]? = some (OwnSl e size oa n cap xs)) (hoa : oa = some ⟨b, 0, none⟩) (hk : k < n) (hlk : xs.length = n * size) (hnc : n ≤ cap) (h1 : xs.all Value.oneCell' = true) :
    EV P r Q E M F ⟨some d, .call ⟨.builtin .copy, #[x, y], #[T1, T2]⟩, ty, pos, aft, gd⟩ Unit (fun _ => I ((n - k : Nat))) (fun _ => M.set i (OwnSl e size oa n cap (xs.drop (k * size) ++ xs.drop ((n - k) * size)))) (fun _ => F) :=
  EV.of_gen rfl fun ρ hρ w hw => by
    have hks : k * size ≤ n * size := Nat.mul_le_mul_right _ (by omega)
    have hsub : (n - k) * size = n * size - k * size := Nat.sub_mul _ _ _
    have hcl : (xs.drop (k * size)).length = (n - k) * size := by rw [List.length_drop, hlk, hsub]
    obtain ⟨K, ⟨K1, K2, _, hown, _⟩, _⟩ := hw.front hi
    rcases hown.1.2 with ⟨hn, _⟩ | ⟨g, c, cur, hs, _, hg, hnc', hcm, hcs, htk⟩
    · simp only [Value.slice.injEq, hoa] at hn; exact absurd hn.1 (by simp)
    · have hs0 := hs
      simp only [Value.slice.injEq, hoa] at hs
      obtain ⟨hgb, _, rfl⟩ := hs
      have hgb' : b = g := by simpa using hgb
      subst hgb'
      have hsrc : ∀ j v, (xs.drop (k * size))[j]? = some v → w.cell? ((⟨b, k * size, none⟩ : Addr).add j) = some v := fun j v hj => by
        rw [addr_add]
        refine own_cell hw hi hoa ?_
        rw [List.getElem?_drop] at hj; exact hj
      have hl := run_loadCells_list (P := P) w ⟨b, k * size, none⟩ (xs.drop (k * size)) hsrc
      have hxc : xs.length ≤ cur.toList.length := by rw [← htk, List.length_take]; omega
      have hst := run_storeCells_at P b 0 e (xs.drop (k * size)) 0 cur w hg (by simp at hxc ⊢; omega) (fun u hu => List.all_eq_true.1 h1 u (List.mem_of_mem_drop hu))
      simp only [Nat.add_zero, List.take_zero, List.nil_append, Nat.zero_add] at hst
      have hcut : cutA oa k cap size = some ⟨b, k * size, none⟩ := by
        unfold cutA; rw [if_neg (by omega), hoa]; show some (Addr.add _ _) = _; rw [addr_add, Nat.zero_add]
      have hmin : Nat.min (n - k) n = n - k := Nat.min_eq_left (by omega)
      rw [hcut] at hy
      refine ⟨(), w.setRow b (xs.drop (k * size) ++ cur.toList.drop (xs.drop (k * size)).length).toArray, ?_, ?_⟩
      · have hrun : (Builtin.copy_ #[T1, T2] ty #[.slice (some ⟨b, 0, none⟩) n cap, .slice (some ⟨b, k * size, none⟩) (n - k) (cap - k)]).run P w = .ok (goInt (n - k : Nat)) (w.setRow b (xs.drop (k * size) ++ cur.toList.drop (xs.drop (k * size)).length).toArray) := by
          rw [hcl] at hl
          simp only [Builtin.copy_, run_underlying (run_tySlice ht), Builtin.lenOf, Builtin.firstCells, run_sizeOf' hz, hmin, hl, hst, Sem.run_bind, Sem.run_pure, Result.andThen, Result.andThen_ok, List.getElem?_toArray, List.getElem?_cons_zero, List.getElem?_cons_succ]
        subst hoa
        simp [execOp, resolve, hρ _ _ hx, hρ _ _ hy, invoke, builtin, hrun, goInt]
      · refine St.back hi ((hw.front hi).turn rfl rfl rfl (by simp) fun K hK => ⟨K, ⟨⟨?_, .inr ⟨b, cap, _, hs0, Nat.zero_le _, setRow_heap w b cur _ e _ hg, hnc, hcm, ?_, ?_⟩⟩, hK.2⟩, ?_, fun c hc => .inl hc, fun c _ hn => setRow_other w b c _ (fun ee => hn (by rw [hK.2, hoa]; simp [ee]))⟩)
        · rw [List.length_append, hcl, List.length_drop, hlk, hsub]; omega
        · simp only [List.size_toArray, List.length_append, List.length_drop, Array.length_toList] at hxc hcl ⊢; omega
        · have hcc : n * size ≤ cur.toList.length := by rw [← hlk]; exact hxc
          show (xs.drop (k * size) ++ cur.toList.drop (xs.drop (k * size)).length).take (n * size) = _
          rw [List.take_append, List.take_of_length_le (by rw [hcl, hsub]; omega), hcl, ← htk]
          congr 1
          rw [List.drop_take]
        · rw [hK.2, hoa]; simp
end
end Go.GL

namespace Go.GL
set_option linter.unusedVariables false
structure StR where
  t : List UInt8
  es : List Ed
  oa : Option Addr
  c : Nat
structure HeR where
  k : Int
  l : List PE
  oa : Option Addr
  c : Nat
structure Dp where
  v : Int
  rows : List StR
  m : Nat
  held : List HeR
abbrev StR.cs (r : StR) : List Value := [S r.t, .slice r.oa r.es.length r.c]
def rowC : List StR → List Value
  | [] => []
  | r :: l => r.cs ++ rowC l
theorem rowC_length : ∀ l : List StR, (rowC l).length = l.length * 2
  | [] => rfl
  | e :: es => by rw [rowC, List.length_append, rowC_length es]; simp; omega
theorem rowC_append : ∀ a b : List StR, rowC (a ++ b) = rowC a ++ rowC b
  | [], b => rfl
  | e :: es, b => by rw [List.cons_append, rowC, rowC, rowC_append es b, List.append_assoc]
theorem rowC_one : ∀ l : List StR, (rowC l).all Value.oneCell' = true
  | [] => rfl
  | e :: es => by rw [rowC, List.all_append, rowC_one es]; rfl
theorem rowC_at : ∀ {l : List StR} {k j : Nat} {v : Value} (h : k < l.length), (l[k].cs)[j]? = some v → (rowC l)[k * 2 + j]? = some v
  | e :: es, 0, j, v, h, hv => by
    rw [rowC, Nat.zero_mul, Nat.zero_add, List.getElem?_append_left (by have := (List.getElem?_eq_some_iff.1 hv).1; simpa using this)]
    exact hv
  | e :: es, k + 1, j, v, h, hv => by
    rw [rowC, List.getElem?_append_right (by simp; omega)]
    have := rowC_at (l := es) (k := k) (j := j) (v := v) (by simpa using h) hv
    rw [← this]
    congr 1
    simp; omega
theorem rowC_drop : ∀ (l : List StR) (k : Nat), (rowC l).drop (k * 2) = rowC (l.drop k)
  | l, 0 => by simp
  | [], k + 1 => by simp [rowC]
  | r :: l, k + 1 => by
    rw [List.drop_succ_cons, ← rowC_drop l k, rowC, show (k + 1) * 2 = 2 + k * 2 from by omega, ← List.drop_drop]; rfl
def heldV (l : List HeR) : KV := l.map fun h => (h.k, .slice h.oa h.l.length h.c)
theorem heldV_keys (l : List HeR) : (heldV l).map Prod.fst = l.map HeR.k := by simp [heldV]
def heFind (l : List HeR) (k : Int) : Option HeR := l.find? fun h => decide (h.k = k)
theorem heFind_kv : ∀ (l : List HeR) (k : Int), kvGet (heldV l) k = (heFind l k).map fun h => .slice h.oa h.l.length h.c
  | [], k => rfl
  | h :: l, k => by
    show (if h.k = k then _ else kvGet (heldV l) k) = _
    unfold heFind
    rw [List.find?_cons]
    by_cases e : h.k = k
    · rw [if_pos e]; simp [e]
    · rw [if_neg e, heFind_kv l k]; simp [e, heFind]
theorem heFind_h : ∀ (l : List HeR) (k : Int), hGet (l.map fun r => (r.k, r.l)) k = (heFind l k).map HeR.l
  | [], k => rfl
  | h :: l, k => by
    show (if h.k = k then _ else hGet (l.map fun r => (r.k, r.l)) k) = _
    unfold heFind
    rw [List.find?_cons]
    by_cases e : h.k = k
    · rw [if_pos e]; simp [e]
    · rw [if_neg e, heFind_h l k]; simp [e, heFind]
def heDel (l : List HeR) (k : Int) : List HeR := l.filter fun h => !decide (h.k = k)
theorem heDel_kv : ∀ {l : List HeR} {k : Int}, (l.map HeR.k).Nodup → kvDel (heldV l) k = heldV (heDel l k)
  | [], k, _ => rfl
  | h :: l, k, hn => by
    rw [List.map_cons, List.nodup_cons] at hn
    show (if h.k = k then heldV l else (h.k, _) :: kvDel (heldV l) k) = _
    unfold heDel
    rw [List.filter_cons]
    by_cases e : h.k = k
    · rw [if_pos e, if_neg (by simpa using e)]
      congr 1
      refine (List.filter_eq_self.2 fun x hx => ?_).symm
      have : x.k ≠ k := fun e2 => hn.1 (List.mem_map.2 ⟨x, hx, by rw [e2, e]⟩)
      simpa using this
    · rw [if_neg e, if_pos (by simpa using e), heDel_kv hn.2]; rfl
theorem heDel_h (l : List HeR) (k : Int) : (heDel l k).map (fun r => (r.k, r.l)) = hDel (l.map fun r => (r.k, r.l)) k := by
  unfold heDel hDel
  rw [List.filter_map]; rfl
def DocF (d : Dp) : Fact := ⟨fun w K => (∀ r, r ∈ d.rows → ArrAt w K r.oa (edC r.es)) ∧ ∀ h, h ∈ d.held → ArrAt w K h.oa (peC h.l), fun h e => ⟨fun r hr => (h.1 r hr).mono e, fun x hx => (h.2 x hx).mono e⟩⟩
def DocB (T e b : Nat) (d : Dp) : HP := Ex (ι := Option Addr × Nat) fun i => [Box b T [I d.v, .slice i.1 d.rows.length i.2, .map (some d.m)], OwnSl e 2 i.1 d.rows.length i.2 (rowC d.rows), MpB d.m (heldV d.held)]
theorem St.docClose {w : World} {M : List HP} {F : List Fact} {T e b n c m : Nat} {oa : Option Addr} {v : Int} {cs : List Value} {kvs : KV} {d : Dp} (e1 : v = d.v) (e2 : n = d.rows.length) (e3 : cs = rowC d.rows) (e4 : m = d.m) (e5 : kvs = heldV d.held)
    (h : St w (Box b T [I v, .slice oa n c, .map (some m)] :: OwnSl e 2 oa n c cs :: MpB m kvs :: M) F) : St w (DocB T e b d :: M) F := by
  subst e1; subst e2; subst e3; subst e4; subst e5
  exact St.exClose (M0 := fun i : Option Addr × Nat => [Box b T [I d.v, .slice i.1 d.rows.length i.2, .map (some d.m)], OwnSl e 2 i.1 d.rows.length i.2 (rowC d.rows), MpB d.m (heldV d.held)]) (oa, c) h
theorem rowC_at1 {l : List StR} {k j : Nat} {v : Value} (h : k < l.length) (hv : (l[k].cs)[j]? = some v) : (rowC l)[0 + ((k : Nat) : Int).toNat * 2 + j]? = some v := by
  rw [Nat.zero_add, Int.toNat_natCast]; exact rowC_at h hv
theorem rowC_ne {l : List StR} (h : 0 < l.length) : rowC l ≠ [] := fun e => by
  have := congrArg List.length e
  rw [rowC_length] at this
  simp at this
  omega
theorem cutA_same {oa : Option Addr} {cap size : Nat} {b : Nat} (h : oa = some ⟨b, 0, none⟩) : cutA oa 0 cap size = oa := by
  rw [cutA_zero h, h]
structure RelD (d : Dp) (h : Hs) : Prop where
  ok : HsOk h
  v : d.v = h.v
  rows : d.rows.map (fun r => (r.t, r.es)) = h.hist.drop (h.hist.length - 17)
  held : d.held.map (fun r => (r.k, r.l)) = h.held
theorem RelD.len {d : Dp} {h : Hs} (r : RelD d h) : d.rows.length = min h.hist.length 17 ∧ 0 < d.rows.length := by
  have h1 := congrArg List.length r.rows
  have h2 : 0 < h.hist.length := List.length_pos_iff.2 r.ok.ne
  rw [List.length_map, List.length_drop] at h1
  omega
theorem RelD.row {d : Dp} {h : Hs} (r : RelD d h) {i : Nat} (hi : i < d.rows.length) : (h.hist.length - 17) + i < h.hist.length ∧ h.hist[(h.hist.length - 17) + i]? = some (d.rows[i].t, d.rows[i].es) := by
  have h1 : (d.rows.map fun r => (r.t, r.es))[i]? = some (d.rows[i].t, d.rows[i].es) := by rw [List.getElem?_map, List.getElem?_eq_getElem hi]; rfl
  rw [r.rows, List.getElem?_drop] at h1
  exact ⟨(List.getElem?_eq_some_iff.1 h1).1, h1⟩
theorem RelD.tx {d : Dp} {h : Hs} (r : RelD d h) (hl : d.rows.length - 1 < d.rows.length) : d.rows[d.rows.length - 1].t = h.tx := by
  obtain ⟨h1, h2⟩ := r.row hl
  have h3 := r.len
  have e : h.hist.length - 17 + (d.rows.length - 1) = h.hist.length - 1 := by omega
  rw [e] at h2
  unfold Hs.tx
  rw [List.getLast?_eq_getElem?, h2]
theorem RelD.keys {d : Dp} {h : Hs} (r : RelD d h) : (d.held.map HeR.k).Nodup := by
  have h1 := r.ok.keys
  rw [← r.held, List.map_map] at h1
  exact h1
theorem RelD.heldLen {d : Dp} {h : Hs} (r : RelD d h) : d.held.length = h.held.length := by rw [← r.held, List.length_map]
theorem RelD.get {d : Dp} {h : Hs} (r : RelD d h) (k : Int) : hGet h.held k = (heFind d.held k).map HeR.l := by rw [← r.held]; exact heFind_h _ _
theorem heFind_mem {l : List HeR} {k : Int} {x : HeR} (h : heFind l k = some x) : x ∈ l ∧ x.k = k := by
  unfold heFind at h
  exact ⟨List.mem_of_find?_eq_some h, by simpa using List.find?_some h⟩
theorem RelD.grow {d : Dp} {h : Hs} (r : RelD d h) {t : List UInt8} {es : List Ed} {x : StR} (hx : (x.t, x.es) = (t, es)) (hok : HsOk { h with hist := h.hist ++ [(t, es)] }) :
    RelD ⟨d.v + 1, if 17 < d.rows.length + 1 then (d.rows ++ [x]).drop 1 else d.rows ++ [x], d.m, d.held⟩ { h with hist := h.hist ++ [(t, es)] } := by
  have hl := r.len
  refine ⟨hok, ?_, ?_, r.held⟩
  · show d.v + 1 = h.first + ((h.hist ++ [(t, es)]).length : Int) - 1
    rw [List.length_append, List.length_singleton, r.v]; unfold Hs.v; omega
  · show List.map _ (if 17 < d.rows.length + 1 then (d.rows ++ [x]).drop 1 else d.rows ++ [x]) = (h.hist ++ [(t, es)]).drop ((h.hist ++ [(t, es)]).length - 17)
    rw [List.length_append, List.length_singleton]
    have hr := r.rows
    generalize h.hist = H at *
    have e0 : (d.rows ++ [x]).map (fun r => (r.t, r.es)) = H.drop (H.length - 17) ++ [(t, es)] := by rw [List.map_append, hr, List.map_singleton, hx]
    split
    · rename_i h1
      rw [List.map_drop, e0]
      have e1 : H.length + 1 - 17 = (H.length - 17) + 1 := by omega
      have e2 : (H.drop (H.length - 17)).length = 17 := by rw [List.length_drop]; omega
      rw [e1, List.drop_append_of_le_length (by omega), List.drop_append_of_le_length (by omega), List.drop_drop]
    · rename_i h1
      have e1 : H.length + 1 - 17 = 0 := by omega
      have e2 : H.length - 17 = 0 := by omega
      rw [e0, e1, e2, List.drop_zero, List.drop_zero]
structure RcX where
  n : Int
  d : Dp
  h : Hs
theorem RelD.del {d : Dp} {h : Hs} (r : RelD d h) (k : Int) : RelD { d with held := heDel d.held k } { h with held := hDel h.held k } :=
  ⟨r.ok.del k, r.v, r.rows, by show (heDel d.held k).map _ = _; rw [heDel_h, r.held]⟩
theorem RelD.of {d : Dp} {h h' : Hs} (r : RelD d h) (e : h = h') : RelD d h' := e ▸ r
theorem RelD.del2 {d : Dp} {h : Hs} (r : RelD d h) : RelD { d with held := heDel d.held (d.v + 1) } { h with held := hDel h.held (h.v + 1) } := by
  have := r.del (d.v + 1)
  rw [show hDel h.held (h.v + 1) = hDel h.held (d.v + 1) from by rw [r.v]]
  exact this
theorem RelD.put {d : Dp} {h : Hs} (r : RelD d h) {x : HeR} (hok : HsOk { h with held := h.held ++ [(x.k, x.l)] }) : RelD { d with held := d.held ++ [x] } { h with held := h.held ++ [(x.k, x.l)] } :=
  ⟨hok, r.v, r.rows, by show (d.held ++ [x]).map _ = _; rw [List.map_append, r.held]; rfl⟩
theorem DocF.del {w : World} {K : List Nat} {d : Dp} (h : (DocF d).p w K) (k : Int) : (DocF { d with held := heDel d.held k }).p w K := ⟨h.1, fun x hx => h.2 x (List.mem_filter.1 hx).1⟩
theorem DocF.put {w : World} {K : List Nat} {d : Dp} {x : HeR} (h : (DocF d).p w K) (hx : ArrAt w K x.oa (peC x.l)) : (DocF { d with held := d.held ++ [x] }).p w K := ⟨h.1, mem_snoc_all h.2 hx⟩
theorem heldV_snoc (l : List HeR) (x : HeR) : heldV (l ++ [x]) = heldV l ++ [(x.k, .slice x.oa x.l.length x.c)] := by simp [heldV]
theorem RelD.notHeld {d : Dp} {h : Hs} (r : RelD d h) {k : Int} (hn : heFind d.held k = none) : ∀ p, p ∈ heldV d.held → p.1 ≠ k := fun p hp => by
  obtain ⟨x, hx, rfl⟩ := List.mem_map.1 hp
  have := List.find?_eq_none.1 hn x hx
  simpa using this
theorem RelD.new {tx : List UInt8} {ver : Int} {m : Nat} (h1 : tx.length ≤ 4096) (h2 : 0 ≤ ver) (h3 : ver ≤ 1099511627776) : RelD ⟨ver, [⟨tx, [], none, 0⟩], m, []⟩ ⟨ver, [(tx, [])], []⟩ := by
  have hv : (⟨ver, [(tx, [])], []⟩ : Hs).v = ver := by show ver + 1 - 1 = ver; omega
  refine ⟨⟨h2, by simp, by rw [hv]; exact h3, fun p hp => ?_, List.nodup_nil, fun p hp => absurd hp (by simp), Nat.zero_le _⟩, hv.symm, rfl, rfl⟩
  rw [List.mem_singleton.1 hp]; exact ⟨h1, Nat.zero_le _, Nat.zero_le _⟩
theorem RelD.keysH {d : Dp} {h : Hs} (r : RelD d h) : d.held.map HeR.k = h.held.map Prod.fst := by
  rw [← r.held, List.map_map]; rfl
theorem RelD.m {d : Dp} {h : Hs} (r : RelD d h) (m : Nat) : RelD { d with m := m } h := ⟨r.ok, r.v, r.rows, r.held⟩
def IdxR (d : Dp) (h : Hs) (ver : Int) (q : Int × Bool) : Prop := match idxH h ver with
  | some i => q.2 = true ∧ 0 ≤ q.1 ∧ q.1.toNat < d.rows.length ∧ h.hist.length - 17 + q.1.toNat = i
  | none => q.2 = false
theorem RelD.idx {d : Dp} {h : Hs} (r : RelD d h) {ver : Int} (h1 : ver ≤ d.v) (h2 : d.v - 16 ≤ ver) : IdxR d h ver ((d.rows.length : Int) - 1 - (d.v - ver), decide (0 ≤ (d.rows.length : Int) - 1 - (d.v - ver))) := by
  have hl := r.len
  have hv := r.v
  have hd : h.v = h.first + h.hist.length - 1 := rfl
  unfold IdxR idxH
  by_cases hf : h.first ≤ ver
  · rw [if_pos ⟨by omega, by omega, hf⟩]
    refine ⟨decide_eq_true (by omega), by show (0 : Int) ≤ (d.rows.length : Int) - 1 - (d.v - ver); omega, ?_, ?_⟩
    · show ((d.rows.length : Int) - 1 - (d.v - ver)).toNat < _; omega
    · show h.hist.length - 17 + ((d.rows.length : Int) - 1 - (d.v - ver)).toNat = (ver - h.first).toNat; omega
  · rw [if_neg (fun e => hf e.2.2)]
    exact decide_eq_false (by omega)
theorem RelD.idxNo {d : Dp} {h : Hs} (r : RelD d h) {ver : Int} (h1 : d.v < ver ∨ ver < d.v - 16) : IdxR d h ver (0, false) := by
  have hv := r.v
  unfold IdxR idxH
  rw [if_neg (by omega)]
theorem IdxR.no {d : Dp} {h : Hs} {ver : Int} {q : Int × Bool} (r : IdxR d h ver q) (e : q.2 = false) : idxH h ver = none := by
  unfold IdxR at r
  cases hi : idxH h ver with
  | none => rfl
  | some i => rw [hi] at r; rw [r.1] at e; cases e
theorem IdxR.yes {d : Dp} {h : Hs} {ver : Int} {q : Int × Bool} (r : IdxR d h ver q) (e : q.2 = true) : 0 ≤ q.1 ∧ q.1.toNat < d.rows.length ∧ idxH h ver = some (h.hist.length - 17 + q.1.toNat) := by
  unfold IdxR at r
  cases hi : idxH h ver with
  | none => rw [hi] at r; rw [show q.2 = false from r] at e; cases e
  | some i => rw [hi] at r; exact ⟨r.2.1, r.2.2.1, by rw [r.2.2.2]⟩
theorem DocF.grow {w : World} {K : List Nat} {d : Dp} {x : StR} {v : Int} (h : (DocF d).p w K) (hx : ArrAt w K x.oa (edC x.es)) : (DocF ⟨v, if 17 < d.rows.length + 1 then (d.rows ++ [x]).drop 1 else d.rows ++ [x], d.m, d.held⟩).p w K := by
  have ha : ∀ r, r ∈ d.rows ++ [x] → ArrAt w K r.oa (edC r.es) := mem_snoc_all h.1 hx
  refine ⟨fun r hr => ?_, h.2⟩
  have hr : r ∈ (if 17 < d.rows.length + 1 then (d.rows ++ [x]).drop 1 else d.rows ++ [x]) := hr
  split at hr
  · exact ha r (List.mem_of_mem_drop hr)
  · exact ha r hr
end Go.GL

namespace Go.Proofs.Ytkdeopioelocnaa
open Go.GL
set_option linter.unusedVariables false
theorem qi_bs26_0_  : BuildSV Try.prog 26 78 0 [] [] := fun w => by kernel_rfl
theorem qi_bs28_0_  : BuildSV Try.prog 28 63 0 [] [] := fun w => by kernel_rfl
theorem qi_ni26 : noInt Try.prog 26 = true := by kernel_rfl
theorem qi_ni28 : noInt Try.prog 28 = true := by kernel_rfl
theorem qi_te63 : tyElem Try.prog 63 5 48 = true := by kernel_rfl
theorem qi_te78 : tyElem Try.prog 78 3 32 = true := by kernel_rfl
theorem qi_tl26 : tySlice Try.prog 26 78 = true := by kernel_rfl
theorem qi_tl28 : tySlice Try.prog 28 63 = true := by kernel_rfl
theorem cloneE_spec {l : List Ed} {oa : Option Addr} {c : Nat} {M : List HP} {F : List Fact} (hR : Rd M F oa (edC l)) (hl : l.length ≤ 1099511627776) : Ctr Try.prog 77 [.slice oa l.length c] M F (Option Addr × Nat) (fun z => .slice z.1 l.length z.2) (fun z => OwnSl 78 3 z.1 l.length z.2 (edC l) :: M) (fun _ => F) := by
  refine Ctr.body Try.func77 rfl rfl ?_
  refine TR.seq ?_
  refine TR.region ?_
  refine RL.assign rfl rfl rfl ?_
  refine RL.nil ?_
  refine NX.seq ?_
  refine TR.seq ?_
  refine TR.seq ?_
  refine TR.region ?_
  refine RL.move rfl rfl rfl ?_
  refine RL.bin rfl rfl rfl (BinV.eqlNil qi_tl26) rfl ?_
  refine RL.nil ?_
  refine NX.seq ?_
  refine TR.cond rfl (fun h1 => ?_) (fun h1 => ?_)
  · skip
    have h1_ := h1
    refine TR.seq ?_
    refine TR.region ?_
    refine RL.assign rfl rfl rfl ?_
    refine RL.nil ?_
    refine NX.seq ?_
    refine TR.ret ?_
    refine NX.retThen ?_
    refine NX.ret1x rfl rfl (fun w hw => ?_)
    have ho : oa = none := by cases oa with | none => rfl | some a => cases h1_
    subst ho
    have hc : edC l = [] := by
      rcases hR w hw with h | ⟨b, off, e, _⟩
      · exact h
      · cases e
    have hl0 : l = [] := List.eq_nil_of_length_eq_zero (by have h8 := edC_length l; rw [hc] at h8; simp at h8; omega)
    subst hl0
    exact ⟨(none, 0), rfl, OwnSl.nil_new 78 3 hw⟩
  · skip
    refine TR.skip ?_
    refine NX.seq ?_
    refine TR.seq ?_
    refine TR.region ?_
    refine RL.buildSlice rfl rfl (qi_bs26_0_) rfl (fun b2 => ?_)
    refine RL.move rfl rfl rfl ?_
    refine RL.weak (fun w hw => St.boxSl (n := 0) (size := 3) rfl (by decide) hw) ?_
    refine RL.ofGV rfl rfl (GV.append (j := 0) qi_tl26 qi_ni26 qi_te78 rfl rfl rfl (src_rd (hR.mono (fun w hw => hw.tail)) (by rw [edC_length]) (edC_one l)) (by omega) (by omega)) (fun z => ?_)
    refine RL.assign rfl rfl rfl ?_
    refine RL.nil ?_
    refine NX.seq ?_
    refine TR.ret ?_
    refine NX.ret1x rfl rfl (fun w hw => ⟨(z.1, z.2), ?_, ?_⟩)
    · rw [Nat.zero_add]
    · have h9 : St w (OwnSl 78 3 z.1 (0 + l.length) z.2 ([] ++ edC l) :: M) F := hw
      rw [Nat.zero_add] at h9
      exact h9
theorem cloneP_spec {l : List PE} {oa : Option Addr} {c : Nat} {M : List HP} {F : List Fact} (hR : Rd M F oa (peC l)) (hl : l.length ≤ 1099511627776) : Ctr Try.prog 47 [.slice oa l.length c] M F (Option Addr × Nat) (fun z => .slice z.1 l.length z.2) (fun z => OwnSl 63 5 z.1 l.length z.2 (peC l) :: M) (fun _ => F) := by
  refine Ctr.body Try.func47 rfl rfl ?_
  refine TR.seq ?_
  refine TR.region ?_
  refine RL.assign rfl rfl rfl ?_
  refine RL.nil ?_
  refine NX.seq ?_
  refine TR.seq ?_
  refine TR.seq ?_
  refine TR.region ?_
  refine RL.move rfl rfl rfl ?_
  refine RL.bin rfl rfl rfl (BinV.eqlNil qi_tl28) rfl ?_
  refine RL.nil ?_
  refine NX.seq ?_
  refine TR.cond rfl (fun h1 => ?_) (fun h1 => ?_)
  · skip
    have h1_ := h1
    refine TR.seq ?_
    refine TR.region ?_
    refine RL.assign rfl rfl rfl ?_
    refine RL.nil ?_
    refine NX.seq ?_
    refine TR.ret ?_
    refine NX.retThen ?_
    refine NX.ret1x rfl rfl (fun w hw => ?_)
    have ho : oa = none := by cases oa with | none => rfl | some a => cases h1_
    subst ho
    have hc : peC l = [] := by
      rcases hR w hw with h | ⟨b, off, e, _⟩
      · exact h
      · cases e
    have hl0 : l = [] := List.eq_nil_of_length_eq_zero (by have h8 := peC_length l; rw [hc] at h8; simp at h8; omega)
    subst hl0
    exact ⟨(none, 0), rfl, OwnSl.nil_new 63 5 hw⟩
  · skip
    refine TR.skip ?_
    refine NX.seq ?_
    refine TR.seq ?_
    refine TR.region ?_
    refine RL.buildSlice rfl rfl (qi_bs28_0_) rfl (fun b2 => ?_)
    refine RL.move rfl rfl rfl ?_
    refine RL.weak (fun w hw => St.boxSl (n := 0) (size := 5) rfl (by decide) hw) ?_
    refine RL.ofGV rfl rfl (GV.append (j := 0) qi_tl28 qi_ni28 qi_te63 rfl rfl rfl (src_rd (hR.mono (fun w hw => hw.tail)) (by rw [peC_length]) (peC_one l)) (by omega) (by omega)) (fun z => ?_)
    refine RL.assign rfl rfl rfl ?_
    refine RL.nil ?_
    refine NX.seq ?_
    refine TR.ret ?_
    refine NX.ret1x rfl rfl (fun w hw => ⟨(z.1, z.2), ?_, ?_⟩)
    · rw [Nat.zero_add]
    · have h9 : St w (OwnSl 63 5 z.1 (0 + l.length) z.2 ([] ++ peC l) :: M) F := hw
      rw [Nat.zero_add] at h9
      exact h9
end Go.Proofs.Ytkdeopioelocnaa

namespace Go.Proofs.Ytkdeopioelocnaa
open Go.GL
set_option linter.unusedVariables false
theorem qj_bs81_1_0 (x00 : List UInt8) (x01 : Option Addr) (x01n x01c : Nat) : BuildSV Try.prog 81 80 1 [(0, .agg #[S x00, .slice x01 x01n x01c])] [S x00, .slice x01 x01n x01c] := fun w => by kernel_rfl
theorem qj_bv80_0_1 (x0 : List UInt8) (x1 : Option Addr) (x1n x1c : Nat) : BuildV Try.prog 80 [(0, S x0), (1, .slice x1 x1n x1c)] (.agg #[S x0, .slice x1 x1n x1c]) := fun w => by kernel_rfl
theorem qj_ni81 : noInt Try.prog 81 = true := by kernel_rfl
theorem qj_te80 : tyElem Try.prog 80 2 40 = true := by kernel_rfl
theorem qj_tf80_0 : fieldOff Try.prog 80 0 0 = true := by kernel_rfl
theorem qj_tf84_0 : fieldOff Try.prog 84 0 0 = true := by kernel_rfl
theorem qj_tf84_1 : fieldOff Try.prog 84 1 1 = true := by kernel_rfl
theorem qj_tl81 : tySlice Try.prog 81 80 = true := by kernel_rfl
theorem qj_ts3 : tyScalar Try.prog 3 = true := by kernel_rfl
theorem qj_ts81 : tyScalar Try.prog 81 = true := by kernel_rfl
theorem qj_ts9 : tyScalar Try.prog 9 = true := by kernel_rfl
theorem qj_tstr9 : tyStr Try.prog 9 = true := by kernel_rfl
theorem qj_tz80 : tySize Try.prog 80 2 = true := by kernel_rfl
theorem version_spec {b : Nat} {d : Dp} {h : Hs} {M : List HP} {F : List Fact} (hr : RelD d h) : Ctr Try.prog 32 [.pointer (some ⟨b, 0, none⟩)] (DocB 84 80 b (d) :: M) F Unit (fun _ => I h.v) (fun _ => DocB 84 80 b (d) :: M) (fun _ => F) := by
  refine Ctr.body Try.func32 rfl rfl ?_
  refine TR.seq ?_
  refine TR.region ?_
  refine RL.assign rfl rfl rfl ?_
  refine RL.nil ?_
  refine NX.seq ?_
  refine TR.seq ?_
  refine TR.open (fun w hw => (St.exOpen (show St w (Ex _ :: _) _ from hw))) (fun ic => ?_)
  refine TR.region ?_
  refine RL.move rfl rfl rfl ?_
  refine RL.nilCheck rfl rfl rfl ?_
  refine RL.fieldAddr rfl qj_tf84_0 rfl rfl ?_
  refine RL.load1 0 rfl qj_ts3 rfl rfl rfl rfl ?_
  refine RL.assign rfl rfl rfl ?_
  refine RL.nil ?_
  refine NX.seq ?_
  refine TR.ret ?_
  exact NX.ret1 () rfl rfl (by rw [hr.v]) (fun w hw => St.docClose (d := d) rfl rfl rfl rfl rfl (hw.to 3 [0, 1, 2] 0 [] rfl))
theorem dtext_spec {b : Nat} {d : Dp} {h : Hs} {M : List HP} {F : List Fact} (hr : RelD d h) : Ctr Try.prog 20 [.pointer (some ⟨b, 0, none⟩)] (DocB 84 80 b (d) :: M) F Unit (fun _ => S h.tx) (fun _ => DocB 84 80 b (d) :: M) (fun _ => F) := by
  refine Ctr.body Try.func20 rfl rfl ?_
  refine TR.seq ?_
  refine TR.region ?_
  refine RL.assign rfl rfl rfl ?_
  refine RL.nil ?_
  refine NX.seq ?_
  refine TR.seq ?_
  have hrl := hr.len
  have hrk : d.rows.length - 1 < d.rows.length := by omega
  refine TR.open (fun w hw => (St.exOpen (show St w (Ex _ :: _) _ from hw))) (fun ic => ?_)
  refine TR.openP (fun w hw => own_at (i := 1) rfl (rowC_ne hr.len.2) hw) (fun gr hgr => ?_)
  refine TR.sub (E' := [(0, _), (2, _)]) ⟨rfl, rfl, trivial⟩ ?_
  refine TR.draw mixed ?_
  apply AR.more [(0, _), (1, _), (2, _), (3, _), (4, _), (5, _), (6, _), (7, _), (8, _), (9, _), (10, _), (11, _), (12, _), (13, _)]
  refine AR.last [0, 1, 2, 3, 4, 5, 6, 7, 8, 9, 10, 11, 12, 13] [0, 1, 2, 3, 4, 5, 6, 7, 8, 9, 10, 11, 12, 13] ⟨QOne.yes rfl rfl rfl (PV.move rfl), QOne.yes rfl rfl rfl (PV.nilCheck rfl), QOne.yes rfl rfl rfl (PV.fieldAddr qj_tf84_1 rfl), QOne.yes rfl rfl rfl (PV.load1 0 qj_ts81 rfl rfl rfl), QOne.yes rfl rfl rfl (PV.move rfl), QOne.yes rfl rfl rfl (PV.nilCheck rfl), QOne.yes rfl rfl rfl (PV.fieldAddr qj_tf84_1 rfl), QOne.yes rfl rfl rfl (PV.load1 0 qj_ts81 rfl rfl rfl), QOne.yes rfl rfl rfl (PV.lenSlice qj_tl81 rfl), QOne.yes rfl rfl rfl (PV.bin rfl rfl (BinV.sub ((d.rows.length - 1 : Nat) : Int) (by omega) (by omega) (by omega))), QOne.yes rfl rfl rfl (PV.indexAddr qj_tl81 qj_tz80 (congrArg (fun a => some (Value.slice a _ _)) hgr) rfl (by omega) (by omega)), QOne.yes rfl rfl rfl (PV.fieldAddr qj_tf80_0 rfl), QOne.yes rfl rfl rfl (PV.loadS rfl (own_one (i := 1) rfl hgr qj_ts9 (show (rowC d.rows)[0 + ((d.rows.length - 1 : Nat) : Int).toNat * 2 + 0]? = some (S h.tx) from rowC_at1 hrk (by rw [← hr.tx hrk]; rfl)))), QOne.yes rfl rfl rfl (PV.assign rfl), trivial⟩ rfl rfl rfl ?_
  refine NX.sub (E' := [(2, _)]) ⟨rfl, trivial⟩ ?_
  refine NX.seq ?_
  refine TR.ret ?_
  exact NX.ret1 () rfl rfl rfl (fun w hw => St.docClose (d := d) rfl rfl rfl rfl rfl (hw.to 3 [0, 1, 2] 0 [] rfl))
theorem bec_spec {l : List Ed} {oa : Option Addr} {ca : Nat} {b : Nat} {d : Dp} {h : Hs} {M : List HP} {F : List Fact} (hr : RelD d h) (hD : DocF d ∈ F) (hl : ArrF oa (edC l) ∈ F) (hll : l.length ≤ 1099511627776) (hb : soundE h.tx.length l = 0 → (applyGo h.tx 0 l).length ≤ 140737488355328) (hv : h.v < 1099511627776) : Ctr Try.prog 49 [.pointer (some ⟨b, 0, none⟩), .slice oa l.length ca] (DocB 84 80 b (d) :: M) F {q : Dp // RelD q (becH h l).2} (fun _ => I (becH h l).1) (fun q => DocB 84 80 b (q.1) :: M) (fun q => DocF q.1 :: F) := by
  refine Ctr.body Try.func49 rfl rfl ?_
  refine TR.seq ?_
  refine TR.region ?_
  refine RL.assign rfl rfl rfl ?_
  refine RL.nil ?_
  refine NX.seq ?_
  refine TR.seq ?_
  refine TR.region ?_
  refine RL.move rfl rfl rfl ?_
  refine RL.call rfl rfl Try.call20 rfl (dtext_spec hr) (fun _ => ?_)
  refine RL.move rfl rfl rfl ?_
  refine RL.call rfl rfl Try.call30 rfl (apply_err (s := h.tx) (es := l) hl (by omega) hb) (fun _ => ?_)
  refine RL.move rfl rfl rfl ?_
  refine RL.extract rfl rfl rfl rfl ?_
  refine RL.extract rfl rfl rfl rfl ?_
  refine RL.assign rfl rfl rfl ?_
  refine RL.assign rfl rfl rfl ?_
  refine RL.nil ?_
  refine NX.seq ?_
  refine TR.seq ?_
  refine TR.seq ?_
  refine TR.region ?_
  refine RL.move rfl rfl rfl ?_
  refine RL.bin rfl rfl rfl BinV.neq rfl ?_
  refine RL.nil ?_
  refine NX.seq ?_
  refine TR.cond rfl (fun h1 => ?_) (fun h1 => ?_)
  · skip
    have hz : soundE h.tx.length l ≠ 0 := of_decide_eq_true h1
    refine TR.seq ?_
    refine TR.region ?_
    refine RL.move rfl rfl rfl ?_
    refine RL.assign rfl rfl rfl ?_
    refine RL.nil ?_
    refine NX.seq ?_
    refine TR.ret ?_
    refine NX.retThen ?_
    have hbe : becH h l = (soundE h.tx.length l, h) := if_pos hz
    exact NX.ret1 (⟨d, by rw [hbe]; exact hr⟩ : {q : Dp // RelD q (becH h l).2}) rfl rfl (by rw [hbe]; rfl) (fun w hw => ((hw.to 1 [0] 0 [] rfl) : St w (DocB 84 80 b (d) :: M) F).derive (ψ := DocF d) (fun K hf => hf _ hD))
  · skip
    have hz : ¬ soundE h.tx.length l ≠ 0 := of_decide_eq_false h1
    have hz0 : soundE h.tx.length l = 0 := Decidable.not_not.1 hz
    rw [applyE_ok hz0]
    have hb1 := hb hz0
    refine TR.skip ?_
    refine NX.seq ?_
    refine TR.seq ?_
    refine TR.seq ?_
    refine TR.region ?_
    refine RL.move rfl rfl rfl ?_
    refine RL.lenStr rfl qj_tstr9 rfl rfl ?_
    refine RL.bin rfl rfl rfl BinV.gtr rfl ?_
    refine RL.nil ?_
    refine NX.seq ?_
    refine TR.cond rfl (fun h2 => ?_) (fun h2 => ?_)
    · skip
      have hbig : 4096 < (applyGo h.tx 0 l).length := by have := of_decide_eq_true h2; omega
      refine TR.seq ?_
      refine TR.region ?_
      refine RL.assign rfl rfl rfl ?_
      refine RL.nil ?_
      refine NX.seq ?_
      refine TR.ret ?_
      refine NX.retThen ?_
      have hbe : becH h l = (4, h) := (if_neg hz).trans (if_pos hbig)
      exact NX.ret1 (⟨d, by rw [hbe]; exact hr⟩ : {q : Dp // RelD q (becH h l).2}) rfl rfl (by rw [hbe]) (fun w hw => ((hw.to 1 [0] 0 [] rfl) : St w (DocB 84 80 b (d) :: M) F).derive (ψ := DocF d) (fun K hf => hf _ hD))
    · skip
      have hbig : ¬ 4096 < (applyGo h.tx 0 l).length := by have := of_decide_eq_false h2; omega
      refine TR.skip ?_
      refine NX.seq ?_
      refine TR.seq ?_
      have hrl := hr.len
      have hv0 := hr.ok.v0
      have hvv := hr.v
      refine TR.open (fun w hw => (St.exOpen (show St w (Ex _ :: _) _ from hw))) (fun ic => ?_)
      refine TR.sub (E' := [(0, _), (1, _), (4, _), (5, _)]) ⟨rfl, rfl, rfl, rfl, trivial⟩ ?_
      refine TR.draw mixed ?_
      apply AR.more [(0, _), (1, _), (2, _), (3, _), (4, _), (5, _), (6, _)]
      refine AR.eff [0, 1, 2, 3, 4, 5, 6] 7 [0, 1, 2, 3, 4, 5, 6, 7, 8, 9, 10, 11, 12, 13] ⟨QOne.yes rfl rfl rfl (PV.move rfl), QOne.yes rfl rfl rfl (PV.move rfl), QOne.yes rfl rfl rfl (PV.nilCheck rfl), QOne.yes rfl rfl rfl (PV.fieldAddr qj_tf84_1 rfl), QOne.yes rfl rfl rfl (PV.load1 0 qj_ts81 rfl rfl rfl), QOne.yes rfl rfl rfl (PV.move rfl), QOne.yes rfl rfl rfl (PV.move rfl), trivial⟩ rfl rfl rfl rfl rfl rfl rfl (EV.call rfl Try.call77 (cloneE_spec (rd_fact hl) hll)) (fun zc => ?_)
      refine AR.weak (fun w hw => (hw.front (i := 0) rfl).keepSl) ?_
      refine AR.done [6] rfl ?_
      apply AR.more [(8, _)]
      refine AR.eff [0, 1, 2, 3, 4, 5, 8] 9 [0, 1, 2, 3, 4, 5, 6, 7, 8, 9, 10, 11, 12, 13] ⟨QOne.yes rfl rfl rfl (PV.move rfl), QOne.yes rfl rfl rfl (PV.move rfl), QOne.yes rfl rfl rfl (PV.nilCheck rfl), QOne.yes rfl rfl rfl (PV.fieldAddr qj_tf84_1 rfl), QOne.yes rfl rfl rfl (PV.load1 0 qj_ts81 rfl rfl rfl), QOne.yes rfl rfl rfl (PV.move rfl), QOne.yes rfl rfl rfl (PV.build rfl (qj_bv80_0_1 _ _ _ _)), trivial⟩ rfl rfl rfl rfl rfl rfl rfl (EV.buildSlice rfl (qj_bs81_1_0 _ _ _ _)) (fun b3 => ?_)
      refine AR.done [8, 5] rfl ?_
      refine AR.eff [0, 1, 2, 3, 4] 10 [0, 1, 2, 3, 4, 5, 6, 7, 8, 9, 10, 11, 12, 13] ⟨QOne.yes rfl rfl rfl (PV.move rfl), QOne.yes rfl rfl rfl (PV.move rfl), QOne.yes rfl rfl rfl (PV.nilCheck rfl), QOne.yes rfl rfl rfl (PV.fieldAddr qj_tf84_1 rfl), QOne.yes rfl rfl rfl (PV.load1 1 qj_ts81 rfl rfl rfl), trivial⟩ rfl rfl rfl rfl rfl rfl rfl (EV.ofGV (GV.append (j := 2) qj_tl81 qj_ni81 qj_te80 rfl rfl rfl (src_box (i := 0) rfl rfl rfl) (by omega) (by omega))) (fun y => ?_)
      refine AR.done [4, 3, 2, 1] rfl ?_
      apply AR.more [(11, _), (12, _)]
      refine AR.eff [0, 11, 12] 13 [0, 1, 2, 3, 4, 5, 6, 7, 8, 9, 10, 11, 12, 13] ⟨QOne.yes rfl rfl rfl (PV.move rfl), QOne.yes rfl rfl rfl (PV.nilCheck rfl), QOne.yes rfl rfl rfl (PV.fieldAddr qj_tf84_1 rfl), trivial⟩ rfl rfl rfl rfl rfl rfl rfl (EV.store1 1 qj_ts81 rfl rfl rfl rfl rfl) (fun _ => ?_)
      refine AR.done [12, 0, 11] rfl ?_
      refine AR.last [] [0, 1, 2, 3, 4, 5, 6, 7, 8, 9, 10, 11, 12, 13] trivial rfl rfl rfl ?_
      refine NX.sub (E' := [(0, _), (4, _)]) ⟨rfl, rfl, trivial⟩ ?_
      refine NX.seq ?_
      refine TR.seq ?_
      refine TR.seq ?_
      refine TR.region ?_
      refine RL.move rfl rfl rfl ?_
      refine RL.nilCheck rfl rfl rfl ?_
      refine RL.fieldAddr rfl qj_tf84_1 rfl rfl ?_
      refine RL.load1 1 rfl qj_ts81 rfl rfl rfl rfl ?_
      refine RL.lenSlice rfl qj_tl81 rfl rfl ?_
      refine RL.assign rfl rfl rfl ?_
      refine RL.nil ?_
      refine NX.seq ?_
      refine TR.seq ?_
      refine TR.region ?_
      refine RL.move rfl rfl rfl ?_
      refine RL.bin rfl rfl rfl BinV.gtr rfl ?_
      refine RL.nil ?_
      refine NX.seq ?_
      refine TR.cond rfl (fun h5 => ?_) (fun h5 => ?_)
      · skip
        have h17 : 17 < (d.rows.length + 1) := by have := of_decide_eq_true h5; omega
        refine TR.seq ?_
        have hxs : rowC d.rows ++ [S (applyGo h.tx 0 l), .slice zc.1 l.length zc.2] = rowC (d.rows ++ [(⟨(applyGo h.tx 0 l), l, zc.1, zc.2⟩ : StR)]) := by rw [rowC_append]; rfl
        refine TR.openP (fun w hw => own_at (i := 2) rfl (by rw [hxs]; exact rowC_ne (by simp)) hw) (fun gy hgy => ?_)
        refine TR.open1 (fun w hw => ⟨(hw.front (i := 2) rfl).ownLen, hw⟩) (fun hol => ?_)
        refine TR.sub (E' := [(0, _), (4, _), (7, _)]) ⟨rfl, rfl, rfl, trivial⟩ ?_
        refine TR.draw mixed ?_
        apply AR.more [(0, _), (1, _), (2, _), (3, _), (4, _), (5, _), (6, _), (7, _), (8, _)]
        refine AR.eff [0, 1, 2, 3, 4, 5, 6, 7, 8] 9 [0, 1, 2, 3, 4, 5, 6, 7, 8, 9] ⟨QOne.yes rfl rfl rfl (PV.move rfl), QOne.yes rfl rfl rfl (PV.nilCheck rfl), QOne.yes rfl rfl rfl (PV.fieldAddr qj_tf84_1 rfl), QOne.yes rfl rfl rfl (PV.load1 1 qj_ts81 rfl rfl rfl), QOne.yes rfl rfl rfl (PV.move rfl), QOne.yes rfl rfl rfl (PV.nilCheck rfl), QOne.yes rfl rfl rfl (PV.fieldAddr qj_tf84_1 rfl), QOne.yes rfl rfl rfl (PV.load1 1 qj_ts81 rfl rfl rfl), QOne.yes rfl rfl rfl (PV.sliceLH (l := 1) (h := d.rows.length + 1) qj_tl81 qj_tz80 rfl (.inr ⟨_, rfl, rfl⟩) (.inl ⟨rfl, rfl⟩) (by omega) hol.2), trivial⟩ rfl rfl rfl rfl rfl rfl rfl (EV.copyDown (k := 1) (size := 2) (b := gy) 2 qj_tl81 qj_tz80 rfl rfl rfl hgy (by omega) hol.1 hol.2 (by rw [hxs]; exact rowC_one _)) (fun _ => ?_)
        refine AR.done [3, 8, 7, 2, 1, 6, 5, 0, 4] rfl ?_
        refine AR.last [] [0, 1, 2, 3, 4, 5, 6, 7, 8, 9] trivial rfl rfl rfl ?_
        refine NX.sub (E' := [(0, _), (4, _), (7, _)]) ⟨rfl, rfl, rfl, trivial⟩ ?_
        refine NX.seq ?_
        have hcz : cutA y.1 0 y.2 2 = y.1 := cutA_same hgy
        refine TR.region ?_
        refine RL.move rfl rfl rfl ?_
        refine RL.move rfl rfl rfl ?_
        refine RL.nilCheck rfl rfl rfl ?_
        refine RL.fieldAddr rfl qj_tf84_1 rfl rfl ?_
        refine RL.load1 1 rfl qj_ts81 rfl rfl rfl rfl ?_
        refine RL.move rfl rfl rfl ?_
        refine RL.bin rfl rfl rfl (BinV.sub ((d.rows.length : Nat) : Int) (by omega) (by omega) (by omega)) rfl ?_
        refine RL.sliceToU (h := d.rows.length) rfl qj_tl81 qj_tz80 rfl rfl (by omega) rfl ?_
        refine RL.nilCheck rfl rfl rfl ?_
        refine RL.fieldAddr rfl qj_tf84_1 rfl rfl ?_
        refine RL.store1 1 rfl qj_ts81 rfl rfl rfl rfl rfl ?_
        refine RL.nil ?_
        refine NX.seq ?_
        refine TR.seq ?_
        have hcs : ((rowC d.rows ++ [S (applyGo h.tx 0 l), .slice zc.1 l.length zc.2]).drop (1 * 2) ++ (rowC d.rows ++ [S (applyGo h.tx 0 l), .slice zc.1 l.length zc.2]).drop ((d.rows.length + 1 - 1) * 2)).take (d.rows.length * 2) = rowC (if 17 < d.rows.length + 1 then (d.rows ++ [(⟨(applyGo h.tx 0 l), l, zc.1, zc.2⟩ : StR)]).drop 1 else d.rows ++ [(⟨(applyGo h.tx 0 l), l, zc.1, zc.2⟩ : StR)]) := by
          rw [if_pos h17, hxs, rowC_drop, List.take_append_of_le_length (by rw [rowC_length, List.length_drop, List.length_append]; simp), List.take_of_length_le (by rw [rowC_length, List.length_drop, List.length_append]; simp)]
        rw [hcz]
        refine TR.weak (fun w hw => (own_take d.rows.length (by omega) (hw.front (i := 2) rfl) (by rw [hgy]; simp))) ?_
        refine TR.region ?_
        refine RL.move rfl rfl rfl ?_
        refine RL.nilCheck rfl rfl rfl ?_
        refine RL.fieldAddr rfl qj_tf84_0 rfl rfl ?_
        refine RL.load1 2 rfl qj_ts3 rfl rfl rfl rfl ?_
        refine RL.bin rfl rfl rfl (BinV.add _ rfl (by omega) (by omega)) rfl ?_
        refine RL.nilCheck rfl rfl rfl ?_
        refine RL.fieldAddr rfl qj_tf84_0 rfl rfl ?_
        refine RL.store1 2 rfl qj_ts3 rfl rfl rfl rfl rfl ?_
        refine RL.nil ?_
        refine NX.seq ?_
        refine TR.seq ?_
        refine TR.region ?_
        refine RL.assign rfl rfl rfl ?_
        refine RL.nil ?_
        refine NX.seq ?_
        refine TR.ret ?_
        have hbe : becH h l = (0, { h with hist := h.hist ++ [((applyGo h.tx 0 l), l)] }) := (if_neg hz).trans (if_neg hbig)
        have hbo := (becH_ok (l := l) hr.ok hv).1
        rw [hbe] at hbo
        refine NX.ret1 (⟨(⟨d.v + 1, if 17 < d.rows.length + 1 then (d.rows ++ [(⟨(applyGo h.tx 0 l), l, zc.1, zc.2⟩ : StR)]).drop 1 else d.rows ++ [(⟨(applyGo h.tx 0 l), l, zc.1, zc.2⟩ : StR)], d.m, d.held⟩ : Dp), by rw [hbe]; exact hr.grow (x := (⟨(applyGo h.tx 0 l), l, zc.1, zc.2⟩ : StR)) rfl hbo⟩ : {q : Dp // RelD q (becH h l).2}) rfl rfl (by rw [hbe]) (fun w hw => ?_)
        have h9 : St w (DocB 84 80 b ((⟨d.v + 1, if 17 < d.rows.length + 1 then (d.rows ++ [(⟨(applyGo h.tx 0 l), l, zc.1, zc.2⟩ : StR)]).drop 1 else d.rows ++ [(⟨(applyGo h.tx 0 l), l, zc.1, zc.2⟩ : StR)], d.m, d.held⟩ : Dp)) :: M) (ArrF zc.1 (edC l) :: F) := St.docClose (d := (⟨d.v + 1, if 17 < d.rows.length + 1 then (d.rows ++ [(⟨(applyGo h.tx 0 l), l, zc.1, zc.2⟩ : StR)]).drop 1 else d.rows ++ [(⟨(applyGo h.tx 0 l), l, zc.1, zc.2⟩ : StR)], d.m, d.held⟩ : Dp)) rfl (by show d.rows.length = (if 17 < d.rows.length + 1 then (d.rows ++ [(⟨(applyGo h.tx 0 l), l, zc.1, zc.2⟩ : StR)]).drop 1 else d.rows ++ [(⟨(applyGo h.tx 0 l), l, zc.1, zc.2⟩ : StR)]).length; rw [if_pos h17, List.length_drop, List.length_append]; rfl) hcs rfl rfl (hw.to 4 [2, 0, 3] 1 [0] rfl)
        exact (h9.derive (ψ := DocF (⟨d.v + 1, if 17 < d.rows.length + 1 then (d.rows ++ [(⟨(applyGo h.tx 0 l), l, zc.1, zc.2⟩ : StR)]).drop 1 else d.rows ++ [(⟨(applyGo h.tx 0 l), l, zc.1, zc.2⟩ : StR)], d.m, d.held⟩ : Dp)) (fun K hf => DocF.grow (hf _ (.tail _ hD)) (hf _ (.head _)))).facts (fun φ h => by rcases List.mem_cons.1 h with e | h; exact e ▸ .head _; exact .tail _ (.tail _ h))
      · skip
        have h17 : ¬ 17 < (d.rows.length + 1) := by have := of_decide_eq_false h5; omega
        have hcs : rowC d.rows ++ [S (applyGo h.tx 0 l), .slice zc.1 l.length zc.2] = rowC (if 17 < d.rows.length + 1 then (d.rows ++ [(⟨(applyGo h.tx 0 l), l, zc.1, zc.2⟩ : StR)]).drop 1 else d.rows ++ [(⟨(applyGo h.tx 0 l), l, zc.1, zc.2⟩ : StR)]) := by rw [if_neg h17, rowC_append]; rfl
        refine TR.skip ?_
        refine NX.seq ?_
        refine TR.seq ?_
        skip
        refine TR.region ?_
        refine RL.move rfl rfl rfl ?_
        refine RL.nilCheck rfl rfl rfl ?_
        refine RL.fieldAddr rfl qj_tf84_0 rfl rfl ?_
        refine RL.load1 1 rfl qj_ts3 rfl rfl rfl rfl ?_
        refine RL.bin rfl rfl rfl (BinV.add _ rfl (by omega) (by omega)) rfl ?_
        refine RL.nilCheck rfl rfl rfl ?_
        refine RL.fieldAddr rfl qj_tf84_0 rfl rfl ?_
        refine RL.store1 1 rfl qj_ts3 rfl rfl rfl rfl rfl ?_
        refine RL.nil ?_
        refine NX.seq ?_
        refine TR.seq ?_
        refine TR.region ?_
        refine RL.assign rfl rfl rfl ?_
        refine RL.nil ?_
        refine NX.seq ?_
        refine TR.ret ?_
        have hbe : becH h l = (0, { h with hist := h.hist ++ [((applyGo h.tx 0 l), l)] }) := (if_neg hz).trans (if_neg hbig)
        have hbo := (becH_ok (l := l) hr.ok hv).1
        rw [hbe] at hbo
        refine NX.ret1 (⟨(⟨d.v + 1, if 17 < d.rows.length + 1 then (d.rows ++ [(⟨(applyGo h.tx 0 l), l, zc.1, zc.2⟩ : StR)]).drop 1 else d.rows ++ [(⟨(applyGo h.tx 0 l), l, zc.1, zc.2⟩ : StR)], d.m, d.held⟩ : Dp), by rw [hbe]; exact hr.grow (x := (⟨(applyGo h.tx 0 l), l, zc.1, zc.2⟩ : StR)) rfl hbo⟩ : {q : Dp // RelD q (becH h l).2}) rfl rfl (by rw [hbe]) (fun w hw => ?_)
        have h9 : St w (DocB 84 80 b ((⟨d.v + 1, if 17 < d.rows.length + 1 then (d.rows ++ [(⟨(applyGo h.tx 0 l), l, zc.1, zc.2⟩ : StR)]).drop 1 else d.rows ++ [(⟨(applyGo h.tx 0 l), l, zc.1, zc.2⟩ : StR)], d.m, d.held⟩ : Dp)) :: M) (ArrF zc.1 (edC l) :: F) := St.docClose (d := (⟨d.v + 1, if 17 < d.rows.length + 1 then (d.rows ++ [(⟨(applyGo h.tx 0 l), l, zc.1, zc.2⟩ : StR)]).drop 1 else d.rows ++ [(⟨(applyGo h.tx 0 l), l, zc.1, zc.2⟩ : StR)], d.m, d.held⟩ : Dp)) rfl (by show d.rows.length + 1 = (if 17 < d.rows.length + 1 then (d.rows ++ [(⟨(applyGo h.tx 0 l), l, zc.1, zc.2⟩ : StR)]).drop 1 else d.rows ++ [(⟨(applyGo h.tx 0 l), l, zc.1, zc.2⟩ : StR)]).length; rw [if_neg h17, List.length_append]; rfl) hcs rfl rfl (hw.to 4 [1, 2, 3] 1 [0] rfl)
        exact (h9.derive (ψ := DocF (⟨d.v + 1, if 17 < d.rows.length + 1 then (d.rows ++ [(⟨(applyGo h.tx 0 l), l, zc.1, zc.2⟩ : StR)]).drop 1 else d.rows ++ [(⟨(applyGo h.tx 0 l), l, zc.1, zc.2⟩ : StR)], d.m, d.held⟩ : Dp)) (fun K hf => DocF.grow (hf _ (.tail _ hD)) (hf _ (.head _)))).facts (fun φ h => by rcases List.mem_cons.1 h with e | h; exact e ▸ .head _; exact .tail _ (.tail _ h))
theorem app_spec {l : List PE} {oa : Option Addr} {ca : Nat} {b : Nat} {d : Dp} {h : Hs} {M : List HP} {F : List Fact} (hr : RelD d h) (hD : DocF d ∈ F) (hl : ArrF oa (peC l) ∈ F) (hll : l.length ≤ 1099511627776) (htp : txsP l ≤ 1099511627776) (hv : h.v < 1099511627776) : Ctr Try.prog 48 [.pointer (some ⟨b, 0, none⟩), .slice oa l.length ca] (DocB 84 80 b (d) :: M) F {q : Dp // RelD q (appH h l).2} (fun _ => I (appH h l).1) (fun q => DocB 84 80 b (q.1) :: M) (fun q => DocF q.1 :: F) := by
  refine Ctr.body Try.func48 rfl rfl ?_
  refine TR.seq ?_
  refine TR.region ?_
  refine RL.assign rfl rfl rfl ?_
  refine RL.nil ?_
  refine NX.seq ?_
  refine TR.seq ?_
  refine TR.region ?_
  refine RL.move rfl rfl rfl ?_
  refine RL.call rfl rfl Try.call20 rfl (dtext_spec hr) (fun _ => ?_)
  refine RL.move rfl rfl rfl ?_
  refine RL.call rfl rfl Try.call17 rfl (bytes_spec (tx := h.tx) (l := l) hl (by have := hr.ok.tx; omega) (by omega)) (fun zb => ?_)
  refine RL.move rfl rfl rfl ?_
  refine RL.extract rfl rfl rfl rfl ?_
  refine RL.extract rfl rfl rfl rfl ?_
  refine RL.assign rfl rfl rfl ?_
  refine RL.assign rfl rfl rfl ?_
  refine RL.nil ?_
  refine NX.seq ?_
  refine TR.seq ?_
  refine TR.seq ?_
  refine TR.region ?_
  refine RL.move rfl rfl rfl ?_
  refine RL.bin rfl rfl rfl BinV.neq rfl ?_
  refine RL.nil ?_
  refine NX.seq ?_
  refine TR.cond rfl (fun h1 => ?_) (fun h1 => ?_)
  · skip
    have hz : (posM h.tx l).2 ≠ 0 := of_decide_eq_true h1
    refine TR.seq ?_
    refine TR.region ?_
    refine RL.move rfl rfl rfl ?_
    refine RL.assign rfl rfl rfl ?_
    refine RL.nil ?_
    refine NX.seq ?_
    refine TR.ret ?_
    refine NX.retThen ?_
    have hae : appH h l = ((posM h.tx l).2, h) := if_pos hz
    exact NX.ret1 (⟨d, by rw [hae]; exact hr⟩ : {q : Dp // RelD q (appH h l).2}) rfl rfl (by rw [hae]; rfl) (fun w hw => ((hw.to 1 [0] 1 [] rfl) : St w (DocB 84 80 b (d) :: M) F).derive (ψ := DocF d) (fun K hf => hf _ hD))
  · skip
    have hz : ¬ (posM h.tx l).2 ≠ 0 := of_decide_eq_false h1
    have hpl := posM_len h.tx l
    have htx := hr.ok.tx
    have hb : soundE h.tx.length (posM h.tx l).1 = 0 → (applyGo h.tx 0 (posM h.tx l).1).length ≤ 140737488355328 := fun e => by
      have := apply_le (s := h.tx) (es := (posM h.tx l).1) (q := 0) (soundE_sound1 e)
      have := posM_txs h.tx l
      omega
    refine TR.skip ?_
    refine NX.seq ?_
    refine TR.seq ?_
    refine TR.region ?_
    refine RL.move rfl rfl rfl ?_
    refine RL.move rfl rfl rfl ?_
    refine RL.call rfl rfl Try.call49 rfl (bec_spec (l := (posM h.tx l).1) hr (.tail _ hD) (.head _) (by omega) hb hv) (fun q => ?_)
    refine RL.assign rfl rfl rfl ?_
    refine RL.nil ?_
    refine NX.seq ?_
    refine TR.ret ?_
    have hae : appH h l = becH h (posM h.tx l).1 := if_neg hz
    refine NX.ret1 (⟨q.1, by rw [hae]; exact q.2⟩ : {q : Dp // RelD q (appH h l).2}) rfl rfl (by rw [hae]) (fun w hw => (hw.to 1 [0] 2 [0] rfl))
end Go.Proofs.Ytkdeopioelocnaa

namespace Go.Proofs.Ytkdeopioelocnaa
open Go.GL
set_option linter.unusedVariables false
theorem qk_tf39_0 : fieldOff Try.prog 39 0 0 = true := by kernel_rfl
theorem qk_tf39_1 : fieldOff Try.prog 39 1 1 = true := by kernel_rfl
theorem qk_tf84_0 : fieldOff Try.prog 84 0 0 = true := by kernel_rfl
theorem qk_tf84_2 : fieldOff Try.prog 84 2 2 = true := by kernel_rfl
theorem qk_tl28 : tySlice Try.prog 28 63 = true := by kernel_rfl
theorem qk_tm82 : tyMap Try.prog 82 3 28 = true := by kernel_rfl
theorem qk_ts28 : tyScalar Try.prog 28 = true := by kernel_rfl
theorem qk_ts3 : tyScalar Try.prog 3 = true := by kernel_rfl
theorem qk_ts82 : tyScalar Try.prog 82 = true := by kernel_rfl
set_option maxHeartbeats 1000000 in
theorem recv_spec {ver : Int} {l : List PE} {oa : Option Addr} {ca : Nat} {b : Nat} {d : Dp} {h : Hs} {M : List HP} {F : List Fact} (hr : RelD d h) (hD : DocF d ∈ F) (hl : ArrF oa (peC l) ∈ F) (hll : l.length ≤ 1099511627776) (htp : txsP l ≤ 1099511627776) (hver : I64 ver) : Ctr Try.prog 15 [.pointer (some ⟨b, 0, none⟩), .agg #[I ver, .slice oa l.length ca]] (DocB 84 80 b (d) :: M) F {q : Dp // RelD q (recvH h ver l).2} (fun _ => .tuple #[I (recvH h ver l).1.1, I (recvH h ver l).1.2]) (fun q => DocB 84 80 b (q.1) :: M) (fun q => DocF q.1 :: F) := by
  refine Ctr.body Try.func15 rfl rfl ?_
  refine TR.seq ?_
  refine TR.region ?_
  refine RL.boxA rfl rfl rfl (fun b1 => ?_)
  refine RL.assign rfl rfl rfl ?_
  refine RL.assign rfl rfl rfl ?_
  refine RL.nil ?_
  refine NX.seq ?_
  refine TR.seq ?_
  have hv0 := hr.ok.v0
  have hv1x := hr.ok.v1
  have hvv := hr.v
  refine TR.pick 2 [1, 0] rfl ?_
  refine TR.open (fun w hw => (St.exOpen (show St w (Ex _ :: _) _ from hw))) (fun ic => ?_)
  refine TR.sub (E' := [(0, _), (3, _), (4, _), (5, _)]) ⟨rfl, rfl, rfl, rfl, trivial⟩ ?_
  refine TR.draw mixed ?_
  apply AR.more [(0, _), (1, _), (2, _), (3, _), (4, _), (5, _), (6, _), (7, _), (8, _), (9, _), (10, _), (11, _)]
  refine AR.last [0, 1, 2, 3, 4, 5, 6, 7, 8, 9, 10, 11] [0, 1, 2, 3, 4, 5, 6, 7, 8, 9, 10, 11] ⟨QOne.yes rfl rfl rfl (PV.move rfl), QOne.yes rfl rfl rfl (PV.nilCheck rfl), QOne.yes rfl rfl rfl (PV.fieldAddr qk_tf84_2 rfl), QOne.yes rfl rfl rfl (PV.load1 0 qk_ts82 rfl rfl rfl), QOne.yes rfl rfl rfl (PV.fieldAddr qk_tf39_0 rfl), QOne.yes rfl rfl rfl (PV.load1 3 qk_ts3 rfl rfl rfl), QOne.yes rfl rfl rfl (PV.lookupC 2 qk_tm82 rfl rfl hver rfl Try.zeroValue28), QOne.yes rfl rfl rfl (PV.move rfl), QOne.yes rfl rfl rfl (PV.extract rfl rfl), QOne.yes rfl rfl rfl (PV.extract rfl rfl), QOne.yes rfl rfl rfl (PV.assign rfl), QOne.yes rfl rfl rfl (PV.assign rfl), trivial⟩ rfl rfl rfl ?_
  refine NX.sub (E' := [(0, _), (3, _), (4, _), (5, _), (7, _)]) ⟨rfl, rfl, rfl, rfl, rfl, trivial⟩ ?_
  refine NX.seq ?_
  refine TR.seq ?_
  refine TR.sub (E' := [(0, _), (3, _), (4, _), (5, _), (7, _)]) ⟨rfl, rfl, rfl, rfl, rfl, trivial⟩ ?_
  refine TR.draw mixed ?_
  apply AR.more [(0, _), (1, _), (2, _), (3, _), (4, _), (5, _), (6, _), (7, _), (8, _)]
  refine AR.last [0, 1, 2, 3, 4, 5, 6, 7, 8] [0, 1, 2, 3, 4, 5, 6, 7, 8] ⟨QOne.yes rfl rfl rfl (PV.fieldAddr qk_tf39_0 rfl), QOne.yes rfl rfl rfl (PV.load1 3 qk_ts3 rfl rfl rfl), QOne.yes rfl rfl rfl (PV.move rfl), QOne.yes rfl rfl rfl (PV.nilCheck rfl), QOne.yes rfl rfl rfl (PV.fieldAddr qk_tf84_0 rfl), QOne.yes rfl rfl rfl (PV.load1 0 qk_ts3 rfl rfl rfl), QOne.yes rfl rfl rfl (PV.bin rfl rfl (BinV.add _ rfl (by omega) (by omega))), QOne.yes rfl rfl rfl (PV.bin rfl rfl BinV.gtr), QOne.yes rfl rfl rfl (PV.assign rfl), trivial⟩ rfl rfl rfl ?_
  refine NX.sub (E' := [(0, _), (3, _), (4, _), (5, _), (7, _), (8, _)]) ⟨rfl, rfl, rfl, rfl, rfl, rfl, trivial⟩ ?_
  refine NX.seq ?_
  refine TR.seq ?_
  refine TR.block ?_
  refine TR.seq ?_
  refine TR.region ?_
  cases hea : decide (d.v + 1 < ver)
  · skip
    have hea2 : ¬ h.v + 1 < ver := by rw [← hvv]; exact of_decide_eq_false hea
    refine RL.fieldAddr rfl qk_tf39_0 rfl rfl ?_
    refine RL.load1 3 rfl qk_ts3 rfl rfl rfl rfl ?_
    refine RL.bin rfl rfl rfl BinV.lss rfl ?_
    refine RL.move rfl rfl rfl ?_
    refine RL.part (fun h2 => ?_) (fun h2 => ?_)
    · skip
      have hbad : ver < 1 ∨ 1099511627776 < ver := .inl (of_decide_eq_true h2)
      refine RL.skip rfl rfl rfl ?_
      refine RL.skip rfl rfl rfl ?_
      refine RL.skip rfl rfl rfl ?_
      refine RL.pickT rfl rfl rfl rfl ?_
      refine RL.assign rfl rfl rfl ?_
      refine RL.nil ?_
      refine NX.seq ?_
      refine TR.condT rfl ?_
      refine TR.seq ?_
      refine TR.region ?_
      refine RL.assign rfl rfl rfl ?_
      refine RL.assign rfl rfl rfl ?_
      refine RL.nil ?_
      refine NX.seq ?_
      refine TR.ret ?_
      refine NX.retBlock ?_
      refine NX.retThen ?_
      have hre : recvH h ver l = ((0, 1), h) := if_pos hbad
      exact NX.ret2 (⟨d, by rw [hre]; exact hr⟩ : {q : Dp // RelD q (recvH h ver l).2}) rfl rfl rfl (by rw [hre]) (fun w hw => (show St w (DocB 84 80 b (d) :: M) F from St.docClose (d := d) rfl rfl rfl rfl rfl (hw.to 4 [0, 1, 2] 0 [] rfl)).derive (ψ := DocF d) (fun K hf => hf _ hD))
    · skip
      have hb1 := of_decide_eq_false h2
      refine RL.fieldAddr rfl qk_tf39_0 rfl rfl ?_
      refine RL.load1 3 rfl qk_ts3 rfl rfl rfl rfl ?_
      refine RL.bin rfl rfl rfl BinV.gtr rfl ?_
      refine RL.pickF rfl rfl rfl rfl ?_
      refine RL.assign rfl rfl rfl ?_
      refine RL.nil ?_
      refine NX.seq ?_
      refine TR.cond rfl (fun h3 => ?_) (fun h3 => ?_)
      · skip
        have hbad : ver < 1 ∨ 1099511627776 < ver := .inr (of_decide_eq_true h3)
        refine TR.seq ?_
        refine TR.region ?_
        refine RL.assign rfl rfl rfl ?_
        refine RL.assign rfl rfl rfl ?_
        refine RL.nil ?_
        refine NX.seq ?_
        refine TR.ret ?_
        refine NX.retBlock ?_
        refine NX.retThen ?_
        have hre : recvH h ver l = ((0, 1), h) := if_pos hbad
        exact NX.ret2 (⟨d, by rw [hre]; exact hr⟩ : {q : Dp // RelD q (recvH h ver l).2}) rfl rfl rfl (by rw [hre]) (fun w hw => (show St w (DocB 84 80 b (d) :: M) F from St.docClose (d := d) rfl rfl rfl rfl rfl (hw.to 4 [0, 1, 2] 0 [] rfl)).derive (ψ := DocF d) (fun K hf => hf _ hD))
      · skip
        have hc1 : ¬ (ver < 1 ∨ 1099511627776 < ver) := by have := of_decide_eq_false h3; omega
        refine TR.seq ?_
        refine TR.region ?_
        refine RL.fieldAddr rfl qk_tf39_1 rfl rfl ?_
        refine RL.load1 3 rfl qk_ts28 rfl rfl rfl rfl ?_
        refine RL.lenSlice rfl qk_tl28 rfl rfl ?_
        refine RL.bin rfl rfl rfl BinV.gtr rfl ?_
        refine RL.assign rfl rfl rfl ?_
        refine RL.nil ?_
        refine NX.seq ?_
        refine TR.cond rfl (fun h4 => ?_) (fun h4 => ?_)
        · skip
          have hbig : 64 < l.length := by have := of_decide_eq_true h4; omega
          refine TR.seq ?_
          refine TR.region ?_
          refine RL.assign rfl rfl rfl ?_
          refine RL.assign rfl rfl rfl ?_
          refine RL.nil ?_
          refine NX.seq ?_
          refine TR.ret ?_
          refine NX.retBlock ?_
          refine NX.retThen ?_
          have hre : recvH h ver l = ((0, 4), h) := (if_neg hc1).trans (if_pos hbig)
          exact NX.ret2 (⟨d, by rw [hre]; exact hr⟩ : {q : Dp // RelD q (recvH h ver l).2}) rfl rfl rfl (by rw [hre]) (fun w hw => (show St w (DocB 84 80 b (d) :: M) F from St.docClose (d := d) rfl rfl rfl rfl rfl (hw.to 4 [0, 1, 2] 0 [] rfl)).derive (ψ := DocF d) (fun K hf => hf _ hD))
        · skip
          have hc2 : ¬ 64 < l.length := by have := of_decide_eq_false h4; omega
          refine TR.seq ?_
          refine TR.sub (E' := [(0, _), (3, _), (4, _), (5, _), (7, _), (8, _)]) ⟨rfl, rfl, rfl, rfl, rfl, rfl, trivial⟩ ?_
          refine TR.draw mixed ?_
          cases h5 : decide (ver ≤ d.v)
          · skip
            have hnv : ¬ ver ≤ h.v := by rw [← hvv]; exact of_decide_eq_false h5
            apply AR.more [(0, _), (1, _), (2, _), (3, _), (4, _), (5, _), (6, _), (7, .bool false), (8, _), (9, _), (10, _)]
            refine AR.last [0, 1, 2, 3, 4, 5, 6, 7, 8, 9, 10] [0, 1, 2, 3, 4, 5, 6, 7, 8, 9, 10] ⟨QOne.yes rfl rfl rfl (PV.fieldAddr qk_tf39_0 rfl), QOne.yes rfl rfl rfl (PV.load1 3 qk_ts3 rfl rfl rfl), QOne.yes rfl rfl rfl (PV.move rfl), QOne.yes rfl rfl rfl (PV.nilCheck rfl), QOne.yes rfl rfl rfl (PV.fieldAddr qk_tf84_0 rfl), QOne.yes rfl rfl rfl (PV.load1 0 qk_ts3 rfl rfl rfl), QOne.yes rfl rfl rfl (PV.bin rfl rfl BinV.leq), QOne.yes rfl rfl rfl (PV.cast (congrArg Value.bool h5) (PV.move rfl)), QOne.yes rfl rfl rfl (PV.move rfl), QOne.yes rfl rfl rfl (PV.pickF rfl rfl), QOne.yes rfl rfl rfl (PV.assign rfl), trivial⟩ rfl rfl rfl ?_
            refine NX.sub (E' := [(0, _), (3, _), (4, _), (5, _), (8, _), (45, _)]) ⟨rfl, rfl, rfl, rfl, rfl, rfl, trivial⟩ ?_
            refine NX.seq ?_
            refine TR.cond rfl (fun h6 => ?_) (fun h6 => ?_)
            · skip
              have htw : ver ≤ h.v ∨ (hGet h.held ver).isSome = true := .inr (by have h7 := h6; rw [heFind_kv, Option.isSome_map] at h7; rw [hr.get, Option.isSome_map]; exact h7)
              refine TR.seq ?_
              refine TR.region ?_
              refine RL.assign rfl rfl rfl ?_
              refine RL.assign rfl rfl rfl ?_
              refine RL.nil ?_
              refine NX.seq ?_
              refine TR.ret ?_
              refine NX.retBlock ?_
              refine NX.retThen ?_
              have hre : recvH h ver l = ((0, 8), h) := (if_neg hc1).trans ((if_neg hc2).trans (if_pos htw))
              exact NX.ret2 (⟨d, by rw [hre]; exact hr⟩ : {q : Dp // RelD q (recvH h ver l).2}) rfl rfl rfl (by rw [hre]) (fun w hw => (show St w (DocB 84 80 b (d) :: M) F from St.docClose (d := d) rfl rfl rfl rfl rfl (hw.to 4 [0, 1, 2] 0 [] rfl)).derive (ψ := DocF d) (fun K hf => hf _ hD))
            · skip
              have hnf : heFind d.held ver = none := by have h7 := h6; rw [heFind_kv, Option.isSome_map] at h7; exact Option.not_isSome_iff_eq_none.1 (by rw [h7]; simp)
              have hc3 : ¬ (ver ≤ h.v ∨ (hGet h.held ver).isSome = true) := fun e => by
                rcases e with e | e
                · exact hnv e
                · rw [hr.get, hnf] at e; cases e
              refine TR.seq ?_
              refine TR.region ?_
              refine RL.move rfl rfl rfl ?_
              refine RL.move rfl rfl rfl ?_
              refine RL.skip rfl rfl rfl ?_
              refine RL.skip rfl rfl rfl ?_
              refine RL.skip rfl rfl rfl ?_
              refine RL.skip rfl rfl rfl ?_
              refine RL.skip rfl rfl rfl ?_
              refine RL.skip rfl rfl rfl ?_
              refine RL.pickF rfl rfl rfl rfl ?_
              refine RL.assign rfl rfl rfl ?_
              refine RL.nil ?_
              refine NX.seq ?_
              refine TR.condF rfl ?_
              refine TR.seq ?_
              refine TR.region ?_
              refine RL.move rfl rfl rfl ?_
              refine RL.assign rfl rfl rfl ?_
              refine RL.nil ?_
              refine NX.seq ?_
              refine TR.condF rfl ?_
              refine TR.skip ?_
              refine NX.off ?_
              refine NX.seq ?_
              refine TR.seq ?_
              refine TR.seq ?_
              have hv1 : h.v < 1099511627776 := by omega
              refine TR.weak (fun w hw => St.docClose (d := d) rfl rfl rfl rfl rfl (show St w (_ :: _ :: _ :: _) _ from hw.toM 4 [0, 1, 2, 3] rfl)) ?_
              refine TR.region ?_
              refine RL.move rfl rfl rfl ?_
              refine RL.fieldAddr rfl qk_tf39_1 rfl rfl ?_
              refine RL.load1 1 rfl qk_ts28 rfl rfl rfl rfl ?_
              refine RL.call rfl rfl Try.call48 rfl (app_spec (l := l) hr hD hl (by omega) htp hv1) (fun q => ?_)
              refine RL.assign rfl rfl rfl ?_
              refine RL.nil ?_
              refine NX.seq ?_
              refine TR.seq ?_
              refine TR.region ?_
              refine RL.move rfl rfl rfl ?_
              refine RL.bin rfl rfl rfl BinV.neq rfl ?_
              refine RL.nil ?_
              refine NX.seq ?_
              refine TR.cond rfl (fun h7 => ?_) (fun h7 => ?_)
              · skip
                have hae : (appH h l).1 ≠ 0 := of_decide_eq_true h7
                refine TR.seq ?_
                refine TR.region ?_
                refine RL.move rfl rfl rfl ?_
                refine RL.assign rfl rfl rfl ?_
                refine RL.assign rfl rfl rfl ?_
                refine RL.nil ?_
                refine NX.seq ?_
                refine TR.ret ?_
                refine NX.retThen ?_
                have hre : recvH h ver l = ((0, (appH h l).1), h) := (if_neg hc1).trans ((if_neg hc2).trans ((if_neg hc3).trans ((if_neg hea2).trans (if_pos hae))))
                refine NX.ret2 (⟨q.1, by rw [hre]; exact q.2.of ((appH_ok (l := l) hr.ok hv1).2.2 hae)⟩ : {q : Dp // RelD q (recvH h ver l).2}) rfl rfl rfl (by rw [hre]) (fun w hw => (hw.to 2 [0] 1 [0] rfl))
              · skip
                have hae : ¬ (appH h l).1 ≠ 0 := of_decide_eq_false h7
                refine TR.skip ?_
                refine NX.seq ?_
                refine TR.seq ?_
                refine TR.region ?_
                refine RL.assign rfl rfl rfl ?_
                refine RL.nil ?_
                refine NX.seq ?_
                refine TR.block ?_
                refine TR.loopP (ι := RcX) (fun x => RelD x.d x.h ∧ drainH x.n x.h = drainH 1 (appH h l).2 ∧ 1 ≤ x.n ∧ x.n + x.h.held.length ≤ 17) (fun x => [(0, .pointer (some ⟨b, 0, none⟩)), (10, I x.n)]) (fun x => DocB 84 80 b (x.d) :: M) (fun x => DocF x.d :: F) (fun x => x.h.held.length) ⟨1, q.1, (appH h l).2⟩ ⟨q.2, rfl, Int.le_refl _, by show (1 : Int) + ((appH h l).2.held.length : Int) ≤ 17; rw [appH_held]; have := hr.ok.few; omega⟩ ⟨rfl, rfl, trivial⟩ (fun w hw => (hw.to 2 [0] 1 [0] rfl)) (fun x hx => ?_)
                refine TR.block ?_
                refine TR.seq ?_
                have hv0 := hx.1.ok.v0
                have hv1x := hx.1.ok.v1
                have hvx := hx.1.v
                have hnx := hx.2.2
                refine TR.open (fun w hw => (St.exOpen (show St w (Ex _ :: _) _ from hw))) (fun ic => ?_)
                refine TR.sub (E' := [(0, _), (10, _)]) ⟨rfl, rfl, trivial⟩ ?_
                refine TR.draw mixed ?_
                apply AR.more [(0, _), (1, _), (2, _), (3, _), (4, _), (5, _), (6, _), (7, _), (8, _), (9, _), (10, _), (11, _), (12, _), (13, _), (14, _)]
                refine AR.last [0, 1, 2, 3, 4, 5, 6, 7, 8, 9, 10, 11, 12, 13, 14] [0, 1, 2, 3, 4, 5, 6, 7, 8, 9, 10, 11, 12, 13, 14] ⟨QOne.yes rfl rfl rfl (PV.move rfl), QOne.yes rfl rfl rfl (PV.nilCheck rfl), QOne.yes rfl rfl rfl (PV.fieldAddr qk_tf84_2 rfl), QOne.yes rfl rfl rfl (PV.load1 0 qk_ts82 rfl rfl rfl), QOne.yes rfl rfl rfl (PV.move rfl), QOne.yes rfl rfl rfl (PV.nilCheck rfl), QOne.yes rfl rfl rfl (PV.fieldAddr qk_tf84_0 rfl), QOne.yes rfl rfl rfl (PV.load1 0 qk_ts3 rfl rfl rfl), QOne.yes rfl rfl rfl (PV.bin rfl rfl (BinV.add _ rfl (by omega) (by omega))), QOne.yes rfl rfl rfl (PV.lookupC 2 qk_tm82 rfl rfl ⟨by omega, by omega⟩ rfl Try.zeroValue28), QOne.yes rfl rfl rfl (PV.move rfl), QOne.yes rfl rfl rfl (PV.extract rfl rfl), QOne.yes rfl rfl rfl (PV.extract rfl rfl), QOne.yes rfl rfl rfl (PV.assign rfl), QOne.yes rfl rfl rfl (PV.assign rfl), trivial⟩ rfl rfl rfl ?_
                refine NX.sub (E' := [(0, _), (10, _), (11, _), (12, _), (84, _), (85, _), (86, _), (87, _), (88, _), (89, _), (90, _), (91, _), (92, _), (93, _), (94, _), (95, _), (96, _)]) ⟨rfl, rfl, rfl, rfl, rfl, rfl, rfl, rfl, rfl, rfl, rfl, rfl, rfl, rfl, rfl, rfl, rfl, trivial⟩ ?_
                refine NX.seq ?_
                refine TR.seq ?_
                refine TR.seq ?_
                refine TR.region ?_
                rw [heFind_kv]
                rcases hfi : heFind x.d.held (x.d.v + 1) with _ | rr
                · skip
                  have hgn : hGet x.h.held (x.h.v + 1) = none := by rw [hx.1.get, ← hvx, hfi]; rfl
                  refine RL.move rfl rfl rfl ?_
                  refine RL.not rfl rfl rfl ?_
                  refine RL.nil ?_
                  refine NX.seq ?_
                  refine TR.condT rfl ?_
                  refine TR.seq ?_
                  refine TR.region ?_
                  refine RL.move rfl rfl rfl ?_
                  refine RL.assign rfl rfl rfl ?_
                  refine RL.assign rfl rfl rfl ?_
                  refine RL.nil ?_
                  refine NX.seq ?_
                  refine TR.ret ?_
                  refine NX.retThen ?_
                  refine NX.retBlock ?_
                  refine NX.retThen ?_
                  refine NX.retBlock ?_
                  have hre : recvH h ver l = ((x.n, 0), x.h) := ((if_neg hc1).trans ((if_neg hc2).trans ((if_neg hc3).trans ((if_neg hea2).trans (if_neg hae))))).trans (by rw [← hx.2.1, drainH_none hgn])
                  exact NX.ret2 (⟨x.d, by rw [hre]; exact hx.1⟩ : {q : Dp // RelD q (recvH h ver l).2}) rfl rfl rfl (by rw [hre]) (fun w hw => St.docClose (d := x.d) rfl rfl rfl rfl rfl (hw.to 3 [0, 1, 2] 1 [0] rfl))
                · skip
                  have hgs : hGet x.h.held (x.h.v + 1) = some rr.l := by rw [hx.1.get, ← hvx, hfi]; rfl
                  have hrm := heFind_mem hfi
                  have hrg : 1 ≤ x.h.v + 1 ∧ x.h.v + 1 ≤ 1099511627776 ∧ rr.l.length ≤ 64 ∧ txsP rr.l ≤ 1099511627776 := hx.1.ok.rng _ (hGet_mem hgs)
                  obtain ⟨hrg1, hrg2, hrg3, hrg4⟩ := hrg
                  have hlt := hDel_lt hgs
                  refine RL.move rfl rfl rfl ?_
                  refine RL.not rfl rfl rfl ?_
                  refine RL.nil ?_
                  refine NX.seq ?_
                  refine TR.condF rfl ?_
                  refine TR.skip ?_
                  refine NX.seq ?_
                  refine TR.seq ?_
                  refine TR.sub (E' := [(0, _), (10, _), (11, _), (12, _), (84, _), (85, _), (86, _), (87, _), (88, _), (89, _), (90, _), (91, _), (92, _), (93, _), (94, _), (95, _), (96, _), (97, _), (98, _)]) ⟨rfl, rfl, rfl, rfl, rfl, rfl, rfl, rfl, rfl, rfl, rfl, rfl, rfl, rfl, rfl, rfl, rfl, rfl, rfl, trivial⟩ ?_
                  refine TR.draw mixed ?_
                  apply AR.more [(0, _), (1, _), (2, _), (3, _), (4, _), (5, _), (6, _), (7, _), (8, _)]
                  refine AR.eff [0, 1, 2, 3, 4, 5, 6, 7, 8] 9 [0, 1, 2, 3, 4, 5, 6, 7, 8, 9] ⟨QOne.yes rfl rfl rfl (PV.move rfl), QOne.yes rfl rfl rfl (PV.nilCheck rfl), QOne.yes rfl rfl rfl (PV.fieldAddr qk_tf84_2 rfl), QOne.yes rfl rfl rfl (PV.load1 0 qk_ts82 rfl rfl rfl), QOne.yes rfl rfl rfl (PV.move rfl), QOne.yes rfl rfl rfl (PV.nilCheck rfl), QOne.yes rfl rfl rfl (PV.fieldAddr qk_tf84_0 rfl), QOne.yes rfl rfl rfl (PV.load1 0 qk_ts3 rfl rfl rfl), QOne.yes rfl rfl rfl (PV.bin rfl rfl (BinV.add _ rfl (by omega) (by omega))), trivial⟩ rfl rfl rfl rfl rfl rfl rfl (EV.delete 2 qk_tm82 rfl rfl ⟨by omega, by omega⟩ rfl) (fun _ => ?_)
                  refine AR.done [3, 8, 7, 2, 1, 6, 5, 0, 4] rfl ?_
                  refine AR.last [] [0, 1, 2, 3, 4, 5, 6, 7, 8, 9] trivial rfl rfl rfl ?_
                  refine NX.sub (E' := [(0, _), (10, _), (11, _), (12, _), (84, _), (85, _), (86, _), (87, _), (88, _), (89, _), (90, _), (91, _), (92, _), (93, _), (94, _), (95, _), (96, _), (97, _), (98, _), (100, _), (101, _), (102, _), (103, _), (104, _), (105, _), (106, _), (107, _), (108, _)]) ⟨rfl, rfl, rfl, rfl, rfl, rfl, rfl, rfl, rfl, rfl, rfl, rfl, rfl, rfl, rfl, rfl, rfl, rfl, rfl, rfl, rfl, rfl, rfl, rfl, rfl, rfl, rfl, rfl, trivial⟩ ?_
                  refine NX.seq ?_
                  refine TR.seq ?_
                  refine TR.seq ?_
                  have hr2 : RelD ({ x.d with held := heDel x.d.held (x.d.v + 1) } : Dp) ({ x.h with held := hDel x.h.held (x.h.v + 1) } : Hs) := hx.1.del2
                  have hv2 : ({ x.h with held := hDel x.h.held (x.h.v + 1) } : Hs).v < 1099511627776 := by show x.h.v < _; omega
                  refine TR.weak (fun w hw => St.docClose (d := ({ x.d with held := heDel x.d.held (x.d.v + 1) } : Dp)) rfl rfl rfl rfl (heDel_kv hx.1.keys) (show St w (_ :: _ :: _ :: _) _ from hw.toM 3 [0, 1, 2] rfl)) ?_
                  refine TR.weak (fun w hw => (hw.derive (ψ := DocF ({ x.d with held := heDel x.d.held (x.d.v + 1) } : Dp)) (fun K hf => DocF.del (hf _ (.head _)) _)).derive (ψ := ArrF rr.oa (peC rr.l)) (fun K hf => (hf (DocF x.d) (.tail _ (.head _))).2 rr hrm.1)) ?_
                  refine TR.region ?_
                  refine RL.move rfl rfl rfl ?_
                  refine RL.move rfl rfl rfl ?_
                  refine RL.call rfl rfl Try.call48 rfl (app_spec (l := rr.l) hr2 (.tail _ (.head _)) (.head _) (by omega) (by omega) hv2) (fun q2 => ?_)
                  refine RL.bin rfl rfl rfl BinV.neq rfl ?_
                  refine RL.nil ?_
                  refine NX.seq ?_
                  refine TR.cond rfl (fun h8 => ?_) (fun h8 => ?_)
                  · skip
                    have hae2 : ¬ (appH ({ x.h with held := hDel x.h.held (x.h.v + 1) } : Hs) rr.l).1 = 0 := of_decide_eq_true h8
                    refine TR.seq ?_
                    refine TR.region ?_
                    refine RL.move rfl rfl rfl ?_
                    refine RL.assign rfl rfl rfl ?_
                    refine RL.assign rfl rfl rfl ?_
                    refine RL.nil ?_
                    refine NX.seq ?_
                    refine TR.ret ?_
                    refine NX.retThen ?_
                    refine NX.retBlock ?_
                    refine NX.retThen ?_
                    refine NX.retBlock ?_
                    have hre : recvH h ver l = ((x.n, 0), { x.h with held := hDel x.h.held (x.h.v + 1) }) := ((if_neg hc1).trans ((if_neg hc2).trans ((if_neg hc3).trans ((if_neg hea2).trans (if_neg hae))))).trans (by rw [← hx.2.1, drainH_some hgs, if_neg hae2])
                    exact NX.ret2 (⟨q2.1, by rw [hre]; exact q2.2.of ((appH_ok (l := rr.l) hr2.ok hv2).2.2 hae2)⟩ : {q : Dp // RelD q (recvH h ver l).2}) rfl rfl rfl (by rw [hre]) (fun w hw => (hw.to 1 [0] 4 [0] rfl))
                  · skip
                    have hae2 : (appH ({ x.h with held := hDel x.h.held (x.h.v + 1) } : Hs) rr.l).1 = 0 := Decidable.not_not.1 (of_decide_eq_false h8)
                    refine TR.skip ?_
                    refine NX.seq ?_
                    refine TR.region ?_
                    refine RL.move rfl rfl rfl ?_
                    refine RL.bin rfl rfl rfl (BinV.add _ rfl (by omega) (by omega)) rfl ?_
                    refine RL.assign rfl rfl rfl ?_
                    refine RL.nil ?_
                    refine NX.off ?_
                    refine NX.roundP ⟨x.n + 1, q2.1, (appH ({ x.h with held := hDel x.h.held (x.h.v + 1) } : Hs) rr.l).2⟩ ⟨q2.2, by rw [← hx.2.1, drainH_some hgs, if_pos hae2], by show 1 ≤ x.n + 1; omega, by show x.n + 1 + ((appH ({ x.h with held := hDel x.h.held (x.h.v + 1) } : Hs) rr.l).2.held.length : Int) ≤ 17; rw [appH_held]; show x.n + 1 + ((hDel x.h.held (x.h.v + 1)).length : Int) ≤ 17; omega⟩ (by show (appH ({ x.h with held := hDel x.h.held (x.h.v + 1) } : Hs) rr.l).2.held.length < x.h.held.length; rw [appH_held]; exact hlt) ⟨rfl, rfl, trivial⟩ (fun w hw => (hw.to 1 [0] 4 [0] rfl))
          · skip
            have htw : ver ≤ h.v ∨ (hGet h.held ver).isSome = true := .inl (by rw [← hvv]; exact of_decide_eq_true h5)
            apply AR.more [(0, _), (1, _), (2, _), (3, _), (4, _), (5, _), (6, _), (7, .bool true), (8, undef), (9, .bool true), (10, .bool true)]
            refine AR.last [0, 1, 2, 3, 4, 5, 6, 7, 8, 9, 10] [0, 1, 2, 3, 4, 5, 6, 7, 8, 9, 10] ⟨QOne.yes rfl rfl rfl (PV.fieldAddr qk_tf39_0 rfl), QOne.yes rfl rfl rfl (PV.load1 3 qk_ts3 rfl rfl rfl), QOne.yes rfl rfl rfl (PV.move rfl), QOne.yes rfl rfl rfl (PV.nilCheck rfl), QOne.yes rfl rfl rfl (PV.fieldAddr qk_tf84_0 rfl), QOne.yes rfl rfl rfl (PV.load1 0 qk_ts3 rfl rfl rfl), QOne.yes rfl rfl rfl (PV.bin rfl rfl BinV.leq), QOne.yes rfl rfl rfl (PV.cast (congrArg Value.bool h5) (PV.move rfl)), QOne.no rfl rfl rfl, QOne.yes rfl rfl rfl (PV.pickT rfl rfl), QOne.yes rfl rfl rfl (PV.assign rfl), trivial⟩ rfl rfl rfl ?_
            refine NX.sub (E' := [(0, _), (3, _), (4, _), (5, _), (8, _), (45, _)]) ⟨rfl, rfl, rfl, rfl, rfl, rfl, trivial⟩ ?_
            refine NX.seq ?_
            refine TR.condT rfl ?_
            refine TR.seq ?_
            refine TR.region ?_
            refine RL.assign rfl rfl rfl ?_
            refine RL.assign rfl rfl rfl ?_
            refine RL.nil ?_
            refine NX.seq ?_
            refine TR.ret ?_
            refine NX.retBlock ?_
            refine NX.retThen ?_
            have hre : recvH h ver l = ((0, 8), h) := (if_neg hc1).trans ((if_neg hc2).trans (if_pos htw))
            exact NX.ret2 (⟨d, by rw [hre]; exact hr⟩ : {q : Dp // RelD q (recvH h ver l).2}) rfl rfl rfl (by rw [hre]) (fun w hw => (show St w (DocB 84 80 b (d) :: M) F from St.docClose (d := d) rfl rfl rfl rfl rfl (hw.to 4 [0, 1, 2] 0 [] rfl)).derive (ψ := DocF d) (fun K hf => hf _ hD))
  · skip
    have hea2 :  h.v + 1 < ver := by rw [← hvv]; exact of_decide_eq_true hea
    refine RL.fieldAddr rfl qk_tf39_0 rfl rfl ?_
    refine RL.load1 3 rfl qk_ts3 rfl rfl rfl rfl ?_
    refine RL.bin rfl rfl rfl BinV.lss rfl ?_
    refine RL.move rfl rfl rfl ?_
    refine RL.part (fun h9 => ?_) (fun h9 => ?_)
    · skip
      have hbad : ver < 1 ∨ 1099511627776 < ver := .inl (of_decide_eq_true h9)
      refine RL.skip rfl rfl rfl ?_
      refine RL.skip rfl rfl rfl ?_
      refine RL.skip rfl rfl rfl ?_
      refine RL.pickT rfl rfl rfl rfl ?_
      refine RL.assign rfl rfl rfl ?_
      refine RL.nil ?_
      refine NX.seq ?_
      refine TR.condT rfl ?_
      refine TR.seq ?_
      refine TR.region ?_
      refine RL.assign rfl rfl rfl ?_
      refine RL.assign rfl rfl rfl ?_
      refine RL.nil ?_
      refine NX.seq ?_
      refine TR.ret ?_
      refine NX.retBlock ?_
      refine NX.retThen ?_
      have hre : recvH h ver l = ((0, 1), h) := if_pos hbad
      exact NX.ret2 (⟨d, by rw [hre]; exact hr⟩ : {q : Dp // RelD q (recvH h ver l).2}) rfl rfl rfl (by rw [hre]) (fun w hw => (show St w (DocB 84 80 b (d) :: M) F from St.docClose (d := d) rfl rfl rfl rfl rfl (hw.to 4 [0, 1, 2] 0 [] rfl)).derive (ψ := DocF d) (fun K hf => hf _ hD))
    · skip
      have hb1 := of_decide_eq_false h9
      refine RL.fieldAddr rfl qk_tf39_0 rfl rfl ?_
      refine RL.load1 3 rfl qk_ts3 rfl rfl rfl rfl ?_
      refine RL.bin rfl rfl rfl BinV.gtr rfl ?_
      refine RL.pickF rfl rfl rfl rfl ?_
      refine RL.assign rfl rfl rfl ?_
      refine RL.nil ?_
      refine NX.seq ?_
      refine TR.cond rfl (fun h10 => ?_) (fun h10 => ?_)
      · skip
        have hbad : ver < 1 ∨ 1099511627776 < ver := .inr (of_decide_eq_true h10)
        refine TR.seq ?_
        refine TR.region ?_
        refine RL.assign rfl rfl rfl ?_
        refine RL.assign rfl rfl rfl ?_
        refine RL.nil ?_
        refine NX.seq ?_
        refine TR.ret ?_
        refine NX.retBlock ?_
        refine NX.retThen ?_
        have hre : recvH h ver l = ((0, 1), h) := if_pos hbad
        exact NX.ret2 (⟨d, by rw [hre]; exact hr⟩ : {q : Dp // RelD q (recvH h ver l).2}) rfl rfl rfl (by rw [hre]) (fun w hw => (show St w (DocB 84 80 b (d) :: M) F from St.docClose (d := d) rfl rfl rfl rfl rfl (hw.to 4 [0, 1, 2] 0 [] rfl)).derive (ψ := DocF d) (fun K hf => hf _ hD))
      · skip
        have hc1 : ¬ (ver < 1 ∨ 1099511627776 < ver) := by have := of_decide_eq_false h10; omega
        refine TR.seq ?_
        refine TR.region ?_
        refine RL.fieldAddr rfl qk_tf39_1 rfl rfl ?_
        refine RL.load1 3 rfl qk_ts28 rfl rfl rfl rfl ?_
        refine RL.lenSlice rfl qk_tl28 rfl rfl ?_
        refine RL.bin rfl rfl rfl BinV.gtr rfl ?_
        refine RL.assign rfl rfl rfl ?_
        refine RL.nil ?_
        refine NX.seq ?_
        refine TR.cond rfl (fun h11 => ?_) (fun h11 => ?_)
        · skip
          have hbig : 64 < l.length := by have := of_decide_eq_true h11; omega
          refine TR.seq ?_
          refine TR.region ?_
          refine RL.assign rfl rfl rfl ?_
          refine RL.assign rfl rfl rfl ?_
          refine RL.nil ?_
          refine NX.seq ?_
          refine TR.ret ?_
          refine NX.retBlock ?_
          refine NX.retThen ?_
          have hre : recvH h ver l = ((0, 4), h) := (if_neg hc1).trans (if_pos hbig)
          exact NX.ret2 (⟨d, by rw [hre]; exact hr⟩ : {q : Dp // RelD q (recvH h ver l).2}) rfl rfl rfl (by rw [hre]) (fun w hw => (show St w (DocB 84 80 b (d) :: M) F from St.docClose (d := d) rfl rfl rfl rfl rfl (hw.to 4 [0, 1, 2] 0 [] rfl)).derive (ψ := DocF d) (fun K hf => hf _ hD))
        · skip
          have hc2 : ¬ 64 < l.length := by have := of_decide_eq_false h11; omega
          refine TR.seq ?_
          refine TR.sub (E' := [(0, _), (3, _), (4, _), (5, _), (7, _), (8, _)]) ⟨rfl, rfl, rfl, rfl, rfl, rfl, trivial⟩ ?_
          refine TR.draw mixed ?_
          cases h12 : decide (ver ≤ d.v)
          · skip
            have hnv : ¬ ver ≤ h.v := by rw [← hvv]; exact of_decide_eq_false h12
            apply AR.more [(0, _), (1, _), (2, _), (3, _), (4, _), (5, _), (6, _), (7, .bool false), (8, _), (9, _), (10, _)]
            refine AR.last [0, 1, 2, 3, 4, 5, 6, 7, 8, 9, 10] [0, 1, 2, 3, 4, 5, 6, 7, 8, 9, 10] ⟨QOne.yes rfl rfl rfl (PV.fieldAddr qk_tf39_0 rfl), QOne.yes rfl rfl rfl (PV.load1 3 qk_ts3 rfl rfl rfl), QOne.yes rfl rfl rfl (PV.move rfl), QOne.yes rfl rfl rfl (PV.nilCheck rfl), QOne.yes rfl rfl rfl (PV.fieldAddr qk_tf84_0 rfl), QOne.yes rfl rfl rfl (PV.load1 0 qk_ts3 rfl rfl rfl), QOne.yes rfl rfl rfl (PV.bin rfl rfl BinV.leq), QOne.yes rfl rfl rfl (PV.cast (congrArg Value.bool h12) (PV.move rfl)), QOne.yes rfl rfl rfl (PV.move rfl), QOne.yes rfl rfl rfl (PV.pickF rfl rfl), QOne.yes rfl rfl rfl (PV.assign rfl), trivial⟩ rfl rfl rfl ?_
            refine NX.sub (E' := [(0, _), (3, _), (4, _), (5, _), (8, _), (45, _)]) ⟨rfl, rfl, rfl, rfl, rfl, rfl, trivial⟩ ?_
            refine NX.seq ?_
            refine TR.cond rfl (fun h13 => ?_) (fun h13 => ?_)
            · skip
              have htw : ver ≤ h.v ∨ (hGet h.held ver).isSome = true := .inr (by have h7 := h13; rw [heFind_kv, Option.isSome_map] at h7; rw [hr.get, Option.isSome_map]; exact h7)
              refine TR.seq ?_
              refine TR.region ?_
              refine RL.assign rfl rfl rfl ?_
              refine RL.assign rfl rfl rfl ?_
              refine RL.nil ?_
              refine NX.seq ?_
              refine TR.ret ?_
              refine NX.retBlock ?_
              refine NX.retThen ?_
              have hre : recvH h ver l = ((0, 8), h) := (if_neg hc1).trans ((if_neg hc2).trans (if_pos htw))
              exact NX.ret2 (⟨d, by rw [hre]; exact hr⟩ : {q : Dp // RelD q (recvH h ver l).2}) rfl rfl rfl (by rw [hre]) (fun w hw => (show St w (DocB 84 80 b (d) :: M) F from St.docClose (d := d) rfl rfl rfl rfl rfl (hw.to 4 [0, 1, 2] 0 [] rfl)).derive (ψ := DocF d) (fun K hf => hf _ hD))
            · skip
              have hnf : heFind d.held ver = none := by have h7 := h13; rw [heFind_kv, Option.isSome_map] at h7; exact Option.not_isSome_iff_eq_none.1 (by rw [h7]; simp)
              have hc3 : ¬ (ver ≤ h.v ∨ (hGet h.held ver).isSome = true) := fun e => by
                rcases e with e | e
                · exact hnv e
                · rw [hr.get, hnf] at e; cases e
              refine TR.seq ?_
              refine TR.region ?_
              refine RL.move rfl rfl rfl ?_
              refine RL.move rfl rfl rfl ?_
              refine RL.move rfl rfl rfl ?_
              refine RL.nilCheck rfl rfl rfl ?_
              refine RL.fieldAddr rfl qk_tf84_2 rfl rfl ?_
              refine RL.load1 0 rfl qk_ts82 rfl rfl rfl rfl ?_
              refine RL.lenMap 2 rfl qk_tm82 rfl rfl rfl ?_
              refine RL.bin rfl rfl rfl BinV.eql rfl ?_
              refine RL.pickT rfl rfl rfl rfl ?_
              refine RL.assign rfl rfl rfl ?_
              refine RL.nil ?_
              refine NX.seq ?_
              refine TR.cond rfl (fun h14 => ?_) (fun h14 => ?_)
              · skip
                have hfull : 16 ≤ h.held.length := by have h7 := of_decide_eq_true h14; rw [← hr.heldLen]; have h8 : (heldV d.held).length = d.held.length := List.length_map _; omega
                refine TR.seq ?_
                refine TR.region ?_
                refine RL.assign rfl rfl rfl ?_
                refine RL.assign rfl rfl rfl ?_
                refine RL.nil ?_
                refine NX.seq ?_
                refine TR.ret ?_
                refine NX.retBlock ?_
                refine NX.retThen ?_
                have hre : recvH h ver l = ((0, 4), h) := (if_neg hc1).trans ((if_neg hc2).trans ((if_neg hc3).trans ((if_pos hea2).trans (if_pos hfull))))
                exact NX.ret2 (⟨d, by rw [hre]; exact hr⟩ : {q : Dp // RelD q (recvH h ver l).2}) rfl rfl rfl (by rw [hre]) (fun w hw => (show St w (DocB 84 80 b (d) :: M) F from St.docClose (d := d) rfl rfl rfl rfl rfl (hw.to 4 [0, 1, 2] 0 [] rfl)).derive (ψ := DocF d) (fun K hf => hf _ hD))
              · skip
                have hfull : ¬ 16 ≤ h.held.length := by have h7 := of_decide_eq_false h14; have h9 := hr.ok.few; have h8 : (heldV d.held).length = d.held.length := List.length_map _; have h6 := hr.heldLen; omega
                refine TR.seq ?_
                refine TR.region ?_
                refine RL.move rfl rfl rfl ?_
                refine RL.assign rfl rfl rfl ?_
                refine RL.nil ?_
                refine NX.seq ?_
                refine TR.condT rfl ?_
                refine TR.seq ?_
                refine TR.sub (E' := [(0, _), (3, _), (4, _), (5, _)]) ⟨rfl, rfl, rfl, rfl, trivial⟩ ?_
                refine TR.draw mixed ?_
                apply AR.more [(0, _), (1, _), (2, _), (3, _), (4, _), (5, _), (6, _), (7, _)]
                refine AR.eff [0, 1, 2, 3, 4, 5, 6, 7] 8 [0, 1, 2, 3, 4, 5, 6, 7, 8, 9] ⟨QOne.yes rfl rfl rfl (PV.move rfl), QOne.yes rfl rfl rfl (PV.nilCheck rfl), QOne.yes rfl rfl rfl (PV.fieldAddr qk_tf84_2 rfl), QOne.yes rfl rfl rfl (PV.load1 0 qk_ts82 rfl rfl rfl), QOne.yes rfl rfl rfl (PV.fieldAddr qk_tf39_0 rfl), QOne.yes rfl rfl rfl (PV.load1 3 qk_ts3 rfl rfl rfl), QOne.yes rfl rfl rfl (PV.fieldAddr qk_tf39_1 rfl), QOne.yes rfl rfl rfl (PV.load1 3 qk_ts28 rfl rfl rfl), trivial⟩ rfl rfl rfl rfl rfl rfl rfl (EV.call rfl Try.call47 (cloneP_spec (rd_fact hl) (by omega))) (fun zc => ?_)
                refine AR.weak (fun w hw => (hw.front (i := 0) rfl).keepSl) ?_
                refine AR.done [7, 6] rfl ?_
                refine AR.eff [0, 1, 2, 3, 4, 5] 9 [0, 1, 2, 3, 4, 5, 6, 7, 8, 9] ⟨QOne.yes rfl rfl rfl (PV.move rfl), QOne.yes rfl rfl rfl (PV.nilCheck rfl), QOne.yes rfl rfl rfl (PV.fieldAddr qk_tf84_2 rfl), QOne.yes rfl rfl rfl (PV.load1 0 qk_ts82 rfl rfl rfl), QOne.yes rfl rfl rfl (PV.fieldAddr qk_tf39_0 rfl), QOne.yes rfl rfl rfl (PV.load1 3 qk_ts3 rfl rfl rfl), trivial⟩ rfl rfl rfl rfl rfl rfl rfl (EV.mapUpdate 2 qk_tm82 rfl rfl rfl hver rfl) (fun _ => ?_)
                refine AR.done [3, 5, 0, 1, 2, 4] rfl ?_
                refine AR.last [] [0, 1, 2, 3, 4, 5, 6, 7, 8, 9] trivial rfl rfl rfl ?_
                refine NX.sub (E' := [(0, _), (3, _), (4, _), (5, _)]) ⟨rfl, rfl, rfl, rfl, trivial⟩ ?_
                refine NX.seq ?_
                refine TR.seq ?_
                refine TR.region ?_
                refine RL.assign rfl rfl rfl ?_
                refine RL.assign rfl rfl rfl ?_
                refine RL.nil ?_
                refine NX.seq ?_
                refine TR.ret ?_
                refine NX.retBlock ?_
                refine NX.retThen ?_
                have hre : recvH h ver l = ((0, 0), { h with held := h.held ++ [(ver, l)] }) := (if_neg hc1).trans ((if_neg hc2).trans ((if_neg hc3).trans ((if_pos hea2).trans (if_neg hfull))))
                have hok := recvH_ok (ver := ver) (l := l) hr.ok htp
                rw [hre] at hok
                refine NX.ret2 (⟨({ d with held := d.held ++ [(⟨ver, l, zc.1, zc.2⟩ : HeR)] } : Dp), by rw [hre]; exact hr.put (x := (⟨ver, l, zc.1, zc.2⟩ : HeR)) hok⟩ : {q : Dp // RelD q (recvH h ver l).2}) rfl rfl rfl (by rw [hre]) (fun w hw => ?_)
                have h9 : St w (DocB 84 80 b (({ d with held := d.held ++ [(⟨ver, l, zc.1, zc.2⟩ : HeR)] } : Dp)) :: M) (ArrF zc.1 (peC l) :: F) := St.docClose (d := ({ d with held := d.held ++ [(⟨ver, l, zc.1, zc.2⟩ : HeR)] } : Dp)) rfl rfl rfl rfl (by show kvSet (heldV d.held) ver _ = heldV (d.held ++ [_]); rw [heldV_snoc, kvSet_new (hr.notHeld hnf)]) (hw.to 4 [0, 1, 2] 1 [0] rfl)
                exact (h9.derive (ψ := DocF ({ d with held := d.held ++ [(⟨ver, l, zc.1, zc.2⟩ : HeR)] } : Dp)) (fun K hf => DocF.put (hf _ (.tail _ hD)) (hf _ (.head _)))).facts (fun φ h => by rcases List.mem_cons.1 h with e | h; exact e ▸ .head _; exact .tail _ (.tail _ h))
          · skip
            have htw : ver ≤ h.v ∨ (hGet h.held ver).isSome = true := .inl (by rw [← hvv]; exact of_decide_eq_true h12)
            apply AR.more [(0, _), (1, _), (2, _), (3, _), (4, _), (5, _), (6, _), (7, .bool true), (8, undef), (9, .bool true), (10, .bool true)]
            refine AR.last [0, 1, 2, 3, 4, 5, 6, 7, 8, 9, 10] [0, 1, 2, 3, 4, 5, 6, 7, 8, 9, 10] ⟨QOne.yes rfl rfl rfl (PV.fieldAddr qk_tf39_0 rfl), QOne.yes rfl rfl rfl (PV.load1 3 qk_ts3 rfl rfl rfl), QOne.yes rfl rfl rfl (PV.move rfl), QOne.yes rfl rfl rfl (PV.nilCheck rfl), QOne.yes rfl rfl rfl (PV.fieldAddr qk_tf84_0 rfl), QOne.yes rfl rfl rfl (PV.load1 0 qk_ts3 rfl rfl rfl), QOne.yes rfl rfl rfl (PV.bin rfl rfl BinV.leq), QOne.yes rfl rfl rfl (PV.cast (congrArg Value.bool h12) (PV.move rfl)), QOne.no rfl rfl rfl, QOne.yes rfl rfl rfl (PV.pickT rfl rfl), QOne.yes rfl rfl rfl (PV.assign rfl), trivial⟩ rfl rfl rfl ?_
            refine NX.sub (E' := [(0, _), (3, _), (4, _), (5, _), (8, _), (45, _)]) ⟨rfl, rfl, rfl, rfl, rfl, rfl, trivial⟩ ?_
            refine NX.seq ?_
            refine TR.condT rfl ?_
            refine TR.seq ?_
            refine TR.region ?_
            refine RL.assign rfl rfl rfl ?_
            refine RL.assign rfl rfl rfl ?_
            refine RL.nil ?_
            refine NX.seq ?_
            refine TR.ret ?_
            refine NX.retBlock ?_
            refine NX.retThen ?_
            have hre : recvH h ver l = ((0, 8), h) := (if_neg hc1).trans ((if_neg hc2).trans (if_pos htw))
            exact NX.ret2 (⟨d, by rw [hre]; exact hr⟩ : {q : Dp // RelD q (recvH h ver l).2}) rfl rfl rfl (by rw [hre]) (fun w hw => (show St w (DocB 84 80 b (d) :: M) F from St.docClose (d := d) rfl rfl rfl rfl rfl (hw.to 4 [0, 1, 2] 0 [] rfl)).derive (ψ := DocF d) (fun K hf => hf _ hD))
end Go.Proofs.Ytkdeopioelocnaa

namespace Go.GL
set_option linter.unusedVariables false
theorem Ctr.boolT {P : Program} {f : FuncId} {args : List Value} {M : List HP} {F : List Fact} {ι : Type} {b : Bool} {M' : ι → List HP} {F' : ι → List Fact} (e : b = true) (h : Ctr P f args M F ι (fun _ => .bool b) M' F') : Ctr P f args M F ι (fun _ => .bool true) M' F' := by subst e; exact h
end Go.GL

namespace Go.GL
set_option linter.unusedVariables false
section
variable {P : Program} {r : Option Nat} {N : Nat} {ops : Array Oper} {rest : List Oper} {Q : Exit → Act → World → Prop} {E : Env} {ds : List Deferred} {M : List HP} {F : List Fact}
variable {d : Nat} {ty : TypeId} {pos : String} {aft : Array Edge} {gd : Option (Nat × Bool)}
end
end Go.GL

namespace Go.GL
set_option linter.unusedVariables false
def CtrD (P : Program) (f : FuncId) (args : List Value) (M : List HP) (F : List Fact) (ι : Type) (M' : ι → List HP) (F' : ι → List Fact) : Prop :=
  ∀ (u : FrameMode) (w : World), St w M F → CallsDIn (Wd none) 0 P f args.toArray u w fun e u' w' => u' = u ∧ Post (fun _ : ι => .tuple #[]) M' F' e w'
theorem CtrD.body {P : Program} {f : FuncId} {fn : Func} {c : Code} {args : List Value} {M : List HP} {F : List Fact} {ι : Type} {M' : ι → List HP} {F' : ι → List Fact} {N : Nat}
    (hf : P.funcs[f]? = some fn) (hb : fn.body = some c) (hN : fn.ntmps = N) (h : TR P none N c (bodyPost P fn (Post (fun _ : ι => .tuple #[]) M' F')) (envOf 0 args) [] M F) : CtrD P f args M F ι M' F' := fun u w hw => by
  refine callsDIn_of_wp hf hb trivial (h _ w ?_ hw)
  subst hN
  refine ⟨by simp; omega, rfl, fun k v hk => ?_⟩
  obtain ⟨_, h2⟩ := look_envOf args 0 k v hk
  have hlt : k < args.length := (List.getElem?_eq_some_iff.1 h2).1
  rw [Array.getElem?_append_left (by simpa using hlt)]
  simpa using h2
section
variable {P : Program} {r : Option Nat} {N : Nat} {ops : Array Oper} {rest : List Oper} {Q : Exit → Act → World → Prop} {E : Env} {ds : List Deferred} {M : List HP} {F : List Fact}
variable {ty : TypeId} {pos : String} {aft : Array Edge} {gd : Option (Nat × Bool)}
theorem RL.defer {cal : Operand} {asx : List Operand} {ats : Array TypeId} {vs fst cap : List Value} {f : FuncId} (hg : wantedG ops E gd = some true) (hc : evalO E cal = some (.func (.func f) fst.toArray cap.toArray)) (ha : evalArgs E asx = some vs)
    (k : RL P none N ops rest Q E ({ target := .fn (.func f) cap.toArray, args := (fst ++ vs).toArray } :: ds) M F) : RL P none N ops (⟨none, .defer ⟨.value cal, asx.toArray, ats⟩, ty, pos, aft, gd⟩ :: rest) Q E ds M F := fun a w hs hw => by
  unfold wpListIn
  rw [hs.wanted hg, if_pos rfl]
  refine ⟨fun _ _ => trivial, ?_⟩
  have e1 : (Oper.semAt (Wd none).round a.eval ⟨none, .defer ⟨.value cal, asx.toArray, ats⟩, ty, pos, aft, gd⟩).run P w = .ok (.defer { target := .fn (.func f) cap.toArray, args := (fst ++ vs).toArray }) w := by
    rw [show (Wd none).round = none from rfl, Oper.semAt_none]
    simp [execOp, resolve, hs.eval hc, hs.args ha, Deferred.ofValue]
  rw [e1]
  exact k _ w ⟨hs.size, by show _ :: a.defers = _; rw [hs.defers], hs.get⟩ hw
end
end Go.GL

namespace Go.GL
set_option linter.unusedVariables false
structure Fl where
  b : List UInt8
  dur : Nat
  oa : Option Addr
  c : Nat
abbrev Fs := List (Int × Fl)
def fl0 : Fl := ⟨[], 0, none, 0⟩
def AllF (fs : Fs) : Fact := ⟨fun w K => ∀ p, p ∈ fs → ArrAt w K p.2.oa (bytesV p.2.b), fun h e p hp => (h p hp).mono e⟩
def fget : Fs → Int → Fl
  | [], _ => fl0
  | p :: l, k => if p.1 = k then p.2 else fget l k
def fset : Fs → Int → Fl → Fs
  | [], k, v => [(k, v)]
  | p :: l, k, v => if p.1 = k then (k, v) :: l else p :: fset l k v
def fdel : Fs → Int → Fs
  | [], _ => []
  | p :: l, k => if p.1 = k then l else p :: fdel l k
theorem fset_mem {fs : Fs} {k : Int} {f : Fl} {p : Int × Fl} (h : p ∈ fset fs k f) : p = (k, f) ∨ p ∈ fs := by
  induction fs with
  | nil => simp [fset] at h; exact .inl h
  | cons q l ih =>
    rw [fset] at h
    split at h
    · rcases List.mem_cons.1 h with e | h
      · exact .inl e
      · exact .inr (.tail _ h)
    · rcases List.mem_cons.1 h with e | h
      · exact .inr (e ▸ .head _)
      · rcases ih h with h | h
        · exact .inl h
        · exact .inr (.tail _ h)
theorem fdel_mem {fs : Fs} {k : Int} {p : Int × Fl} (h : p ∈ fdel fs k) : p ∈ fs := by
  induction fs with
  | nil => exact h
  | cons q l ih =>
    rw [fdel] at h
    split at h
    · exact .tail _ h
    · rcases List.mem_cons.1 h with e | h
      · exact e ▸ .head _
      · exact .tail _ (ih h)
def used (fs : Fs) : Nat := (fs.map fun p => p.2.b.length).sum
theorem left_lt {l : List Int} {k : Int} (h : k ∈ l) : (l.filter fun x => !decide (x = k)).length < l.length :=
  List.length_filter_lt_length_iff_exists.2 ⟨k, h, by simp⟩
structure Ds where
  m : Nat
  fs : Fs
  room : Nat
  off : Bool
  armed : Bool
  left : Int
structure OkF (fs : Fs) : Prop where
  keys : (fs.map Prod.fst).Nodup
  fits : ∀ p, p ∈ fs → 0 ≤ p.1 ∧ p.1 < 64
  each : ∀ p, p ∈ fs → p.2.b.length ≤ p.2.c ∧ p.2.dur ≤ p.2.b.length
  some : ∀ p, p ∈ fs → p.2.b ≠ []
def hardF (f : Fl) : Fl := { f with dur := f.b.length }
def hard (fs : Fs) : Fs := fs.map fun p => (p.1, hardF p.2)
def stepS (s : Ds) : Ds := if s.armed then (if s.left - 1 < 0 then { s with left := s.left - 1, off := true, armed := false } else { s with left := s.left - 1 }) else s
def stepB (s : Ds) : Bool := if s.armed then !(stepS s).off else true
def setF (fs : Fs) (n : Int) (f : Fl) : Fs := if f.b.length = 0 then fdel (fset fs n f) n else fset fs n f
theorem St.hardF {w : World} {M : List HP} {F : List Fact} {fs : Fs} (h : AllF fs ∈ F) (hw : St w M F) : St w M (AllF (hard fs) :: F) := hw.derive fun K hf p hp => by
  obtain ⟨q, hq, rfl⟩ := List.mem_map.1 hp
  exact hf _ h q hq
section
variable {P : Program} {r : Option Nat} {N : Nat} {ops : Array Oper} {rest : List Oper} {Q : Exit → Act → World → Prop} {E : Env} {ds : List Deferred} {M : List HP} {F : List Fact}
variable {d : Nat} {ty : TypeId} {pos : String} {aft : Array Edge} {gd : Option (Nat × Bool)}
end
def there (n : Int) : Prop := 0 ≤ n ∧ n < 64
instance (n : Int) : Decidable (there n) := by unfold there; infer_instance
def appF (s : Ds) (n : Int) (x : List UInt8) (z : RdX) : Fl := ⟨(fget s.fs n).b ++ x, (fget s.fs n).dur, z.oa, z.c⟩
def appE (s : Ds) (n : Int) (x : List UInt8) : Int := if ¬ there n then 1 else if s.off = true then 22 else if (s.room : Int) - used s.fs < x.length then 21 else if stepB s = true then 0 else 22
def appS (s : Ds) (n : Int) (x : List UInt8) (z : RdX) : Ds := if ¬ there n then s else if s.off = true then s else if (s.room : Int) - used s.fs < x.length then s else stepS { s with fs := setF s.fs n (appF s n x z) }
def syncE (s : Ds) : Int := if s.off = true ∨ stepB s = false then 22 else 0
def syncS (s : Ds) : Ds := if s.off = true then s else if stepB s = false then stepS s else { stepS s with fs := hard (stepS s).fs }
section
variable {P : Program} {r : Option Nat} {N : Nat} {ops : Array Oper} {rest : List Oper} {Q : Exit → Act → World → Prop} {E : Env} {ds : List Deferred} {M : List HP} {F : List Fact}
variable {d : Nat} {ty : TypeId} {pos : String} {aft : Array Edge} {gd : Option (Nat × Bool)}
end
def truncBad (s : Ds) (n k : Int) : Prop := ¬ there n ∨ k < 0 ∨ ((fget s.fs n).b.length : Int) < k
instance (s : Ds) (n k : Int) : Decidable (truncBad s n k) := by unfold truncBad; infer_instance
theorem fdel_keys : ∀ (fs : Fs) (n : Int), ((fdel fs n).map Prod.fst).Sublist (fs.map Prod.fst)
  | [], _ => .slnil
  | p :: l, n => by
    rw [fdel]
    split
    · exact List.sublist_cons_self _ _
    · exact (fdel_keys l n).cons_cons _
theorem fset_keys : ∀ {fs : Fs} {n : Int} {f : Fl}, (fs.map Prod.fst).Nodup → ((fset fs n f).map Prod.fst).Nodup
  | [], n, f, _ => by simp [fset]
  | p :: l, n, f, h => by
    rw [List.map_cons, List.nodup_cons] at h
    rw [fset]
    split
    · rename_i e; rw [List.map_cons, List.nodup_cons]; exact ⟨by rw [← e]; exact h.1, h.2⟩
    · rename_i e
      rw [List.map_cons, List.nodup_cons]
      refine ⟨fun hm => ?_, fset_keys h.2⟩
      obtain ⟨q, hq, e2⟩ := List.mem_map.1 hm
      rcases fset_mem hq with e3 | e3
      · subst e3; exact e e2.symm
      · exact h.1 (e2 ▸ List.mem_map_of_mem (f := Prod.fst) e3)
theorem OkF.setF {fs : Fs} {n : Int} {f : Fl} (h : OkF fs) (hn : there n) (hf : f.b.length ≤ f.c ∧ f.dur ≤ f.b.length) : OkF (setF fs n f) := by
  unfold Go.GL.setF
  split
  · rename_i h0
    have hm : ∀ p, p ∈ fdel (fset fs n f) n → p ∈ fs := by
      intro p hp
      have hk := fset_keys (f := f) (n := n) h.keys
      rcases fset_mem (fdel_mem hp) with e | e
      · exfalso
        have : ∀ (l : Fs), (l.map Prod.fst).Nodup → ∀ q, q ∈ fdel l n → q.1 ≠ n := by
          intro l
          induction l with
          | nil => intro _ q hq; simp [fdel] at hq
          | cons a l ih =>
            intro hn2 q hq
            rw [List.map_cons, List.nodup_cons] at hn2
            rw [fdel] at hq
            split at hq
            · rename_i e2
              intro e3; exact hn2.1 (by rw [e2, ← e3]; exact List.mem_map_of_mem (f := Prod.fst) hq)
            · rename_i e2
              rcases List.mem_cons.1 hq with e3 | e3
              · rw [e3]; exact e2
              · exact ih hn2.2 q e3
        exact this _ hk p hp (by rw [e])
      · exact e
    exact ⟨(fset_keys h.keys).sublist (fdel_keys _ _), fun p hp => h.fits p (hm p hp), fun p hp => h.each p (hm p hp), fun p hp => h.some p (hm p hp)⟩
  · rename_i h0
    refine ⟨fset_keys h.keys, fun p hp => ?_, fun p hp => ?_, fun p hp => ?_⟩
    · rcases fset_mem hp with e | e
      · rw [e]; exact hn
      · exact h.fits p e
    · rcases fset_mem hp with e | e
      · rw [e]; exact hf
      · exact h.each p e
    · rcases fset_mem hp with e | e
      · rw [e]; intro e2; exact h0 (by show f.b.length = 0; rw [show f.b = [] from e2]; rfl)
      · exact h.some p e
theorem OkF.hard {fs : Fs} (h : OkF fs) : OkF (hard fs) := by
  have hk : (Go.GL.hard fs).map Prod.fst = fs.map Prod.fst := by unfold Go.GL.hard; rw [List.map_map]; rfl
  refine ⟨by rw [hk]; exact h.keys, fun p hp => ?_, fun p hp => ?_, fun p hp => ?_⟩ <;> obtain ⟨q, hq, rfl⟩ := List.mem_map.1 hp
  · exact h.fits q hq
  · exact ⟨(h.each q hq).1, Nat.le_refl _⟩
  · exact h.some q hq
theorem OkF.nil : OkF [] := ⟨List.nodup_nil, fun _ h => absurd h (by simp), fun _ h => absurd h (by simp), fun _ h => absurd h (by simp)⟩
structure Lg where
  f : Int
  n : Nat
  dn : Bool
def lgFr (g : Lg) (x : List UInt8) : List UInt8 := frameJ (g.n : Int) x
def lgE (s : Ds) (g : Lg) (x : List UInt8) (z : RdX) : Int := if (65536 : Int) < x.length then 4 else if g.dn = true then 22 else if appE s g.f (lgFr g x) ≠ 0 then appE s g.f (lgFr g x) else syncE (appS s g.f (lgFr g x) z)
def lgS (s : Ds) (g : Lg) (x : List UInt8) (z : RdX) : Ds := if (65536 : Int) < x.length then s else if g.dn = true then s else if appE s g.f (lgFr g x) ≠ 0 then appS s g.f (lgFr g x) z else syncS (appS s g.f (lgFr g x) z)
def lgN (g : Lg) (e : Int) : Lg := { g with n := if e = 0 then g.n + 1 else g.n, dn := decide (e = 22) }
def lgG (s : Ds) (g : Lg) (x : List UInt8) (z : RdX) : Lg := if (65536 : Int) < x.length then g else lgN g (lgE s g x z)
theorem lgE_sync {s : Ds} {g : Lg} {x : List UInt8} {z : RdX} (h : ¬ (65536 : Int) < x.length) (hd : ¬ g.dn = true) (ha : ¬ appE s g.f (lgFr g x) ≠ 0) : lgE s g x z = syncE (appS s g.f (lgFr g x) z) ∧ lgS s g x z = syncS (appS s g.f (lgFr g x) z) ∧ lgG s g x z = lgN g (syncE (appS s g.f (lgFr g x) z)) := by
  have h1 : lgE s g x z = syncE (appS s g.f (lgFr g x) z) := by unfold lgE; rw [if_neg h, if_neg hd, if_neg ha]
  refine ⟨h1, ?_, ?_⟩
  · unfold lgS; rw [if_neg h, if_neg hd, if_neg ha]
  · unfold lgG; rw [if_neg h, h1]
structure CalmD (s : Ds) : Prop where
  off : s.off = false
  armed : s.armed = false
theorem CalmD.step {s : Ds} (h : CalmD s) : stepS s = s ∧ stepB s = true := by
  constructor
  · unfold stepS; rw [if_neg (by rw [h.armed]; simp)]
  · unfold stepB; rw [if_neg (by rw [h.armed]; simp)]
theorem CalmD.sync {s : Ds} (h : CalmD s) : syncE s = 0 ∧ syncS s = { s with fs := hard s.fs } := by
  have h1 : ¬ s.off = true := by rw [h.off]; simp
  have h2 : ¬ stepB s = false := by rw [h.step.2]; simp
  constructor
  · unfold syncE; rw [if_neg (fun e => e.elim h1 h2)]
  · unfold syncS; rw [if_neg h1, if_neg h2, h.step.1]
end Go.GL

namespace Go.GL
set_option linter.unusedVariables false
theorem CalmD.fits {s : Ds} {g : Lg} {x : List UInt8} {z : RdX} (h : CalmD s) (hf : there g.f) (hd : g.dn = false) (hx : ¬ (65536 : Int) < x.length) (hr : ¬ (s.room : Int) - used s.fs < (lgFr g x).length) : lgE s g x z = 0 ∧ lgS s g x z = { s with fs := hard (setF s.fs g.f (appF s g.f (lgFr g x) z)) } ∧ lgG s g x z = { g with n := g.n + 1 } := by
  have h1 : ¬ s.off = true := by rw [h.off]; simp
  have h2 : ¬ g.dn = true := by rw [hd]; simp
  have ha : appE s g.f (lgFr g x) = 0 := by unfold appE; rw [if_neg (show ¬ ¬ there g.f from fun e => e hf), if_neg h1, if_neg hr, if_pos h.step.2]
  have hs : appS s g.f (lgFr g x) z = { s with fs := setF s.fs g.f (appF s g.f (lgFr g x) z) } := by
    unfold appS
    rw [if_neg (show ¬ ¬ there g.f from fun e => e hf), if_neg h1, if_neg hr]
    exact (CalmD.step (s := { s with fs := setF s.fs g.f (appF s g.f (lgFr g x) z) }) ⟨h.off, h.armed⟩).1
  have hc : CalmD (appS s g.f (lgFr g x) z) := by rw [hs]; exact ⟨h.off, h.armed⟩
  obtain ⟨e1, e2, e3⟩ := lgE_sync (z := z) hx h2 (show ¬ appE s g.f (lgFr g x) ≠ 0 by rw [ha]; simp)
  refine ⟨by rw [e1, hc.sync.1], by rw [e2, hc.sync.2, hs], ?_⟩
  rw [e3, hc.sync.1]
  obtain ⟨f, n, dn⟩ := g
  simp only at hd
  subst hd
  rfl
end Go.GL

namespace Go.GL
set_option linter.unusedVariables false
section
variable {P : Program} {r : Option Nat} {N : Nat} {ops : Array Oper} {rest : List Oper} {Q : Exit → Act → World → Prop} {E : Env} {ds : List Deferred} {M : List HP} {F : List Fact}
variable {d : Nat} {ty : TypeId} {pos : String} {aft : Array Edge} {gd : Option (Nat × Bool)}
end
end Go.GL

namespace Go.GL
set_option linter.unusedVariables false
def iAt (l : List Int) (p : Nat) : Int := l.getD p 0
def swp (l : List Int) (j : Nat) : List Int := (l.set j (iAt l (j - 1))).set (j - 1) (iAt l j)
theorem iAt_get {l : List Int} {p : Nat} (h : p < l.length) : iAt l p = l[p] := by unfold iAt; rw [List.getD_eq_getElem?_getD, List.getElem?_eq_getElem h]; rfl
theorem swp_len (l : List Int) (j : Nat) : (swp l j).length = l.length := by unfold swp; rw [List.length_set, List.length_set]
theorem swp_at {l : List Int} {j p : Nat} (hj : j < l.length) (h0 : 0 < j) : iAt (swp l j) p = if p = j then iAt l (j - 1) else if p = j - 1 then iAt l j else iAt l p := by
  unfold swp
  show ((l.set j (iAt l (j - 1))).set (j - 1) (iAt l j)).getD p 0 = _
  rw [List.getD_eq_getElem?_getD, List.getElem?_set, List.getElem?_set, List.length_set]
  by_cases e : p = j
  · subst e
    rw [if_neg (by omega), if_pos rfl, if_pos hj, if_pos rfl]; rfl
  · by_cases e2 : p = j - 1
    · subst e2
      rw [if_pos rfl, if_pos (by omega), if_neg e, if_pos rfl]; rfl
    · rw [if_neg (fun e3 => e2 e3.symm), if_neg (fun e3 => e e3.symm), if_neg e, if_neg e2]
      unfold iAt; rw [List.getD_eq_getElem?_getD]
def Ord (l : List Int) (i : Nat) : Prop := ∀ p q, p < q → q < i → iAt l p ≤ iAt l q
def OrdBut (l : List Int) (i j : Nat) : Prop := (∀ p q, p < q → q ≤ i → p ≠ j → q ≠ j → iAt l p ≤ iAt l q) ∧ ∀ q, j < q → q ≤ i → iAt l j ≤ iAt l q
theorem OrdBut.start {l : List Int} {i : Nat} (h : Ord l i) : OrdBut l i i := ⟨fun p q h1 h2 _ h4 => h p q h1 (by omega), fun q h1 h2 => by omega⟩
theorem OrdBut.step {l : List Int} {i j : Nat} (h : OrdBut l i j) (hi : i < l.length) (hj : j ≤ i) (h0 : 0 < j) (hlt : iAt l j < iAt l (j - 1)) : OrdBut (swp l j) i (j - 1) := by
  have at_ := fun p => swp_at (l := l) (j := j) (p := p) (by omega) h0
  refine ⟨fun p q h1 h2 h3 h4 => ?_, fun q h1 h2 => ?_⟩
  · rw [at_ p, at_ q, if_neg h3, if_neg h4]
    by_cases e1 : p = j
    · rw [if_pos e1, if_neg (by omega)]
      exact h.1 (j - 1) q (by omega) h2 (by omega) (by omega)
    · rw [if_neg e1]
      by_cases e2 : q = j
      · rw [if_pos e2]; exact h.1 p (j - 1) (by omega) (by omega) e1 (by omega)
      · rw [if_neg e2]; exact h.1 p q h1 h2 e1 e2
  · rw [at_ (j - 1), at_ q, if_neg (by omega), if_pos rfl]
    by_cases e2 : q = j
    · rw [if_pos e2]; omega
    · rw [if_neg e2, if_neg (by omega)]; exact h.2 q (by omega) h2
theorem OrdBut.stop {l : List Int} {i j : Nat} (h : OrdBut l i j) (hj : j ≤ i) (hs : j = 0 ∨ ¬ iAt l j < iAt l (j - 1)) : Ord l (i + 1) := by
  intro p q h1 h2
  by_cases e1 : p = j
  · subst e1; exact h.2 q h1 (by omega)
  · by_cases e2 : q = j
    · subst e2
      have h3 : ¬ iAt l q < iAt l (q - 1) := hs.resolve_left (by omega)
      by_cases e3 : p = q - 1
      · subst e3; omega
      · have := h.1 p (q - 1) (by omega) (by omega) e1 (by omega); omega
    · exact h.1 p q h1 (by omega) e1 e2
theorem swp_perm {l : List Int} {j : Nat} (hj : j < l.length) (h0 : 0 < j) : (swp l j).Perm l := by
  unfold swp
  rw [iAt_get hj, iAt_get (show j - 1 < l.length by omega)]
  exact List.set_set_perm (by omega) (by omega) |>.trans (List.Perm.refl _)
theorem ints_iAt {l : List Int} {v : Int} (p : Nat) (hv : v.toNat = p) (h : p < l.length) : (ints l)[0 + v.toNat * 1]? = some (I (iAt l p)) := by
  rw [hv, Nat.zero_add, Nat.mul_one, iAt_get h, List.getElem?_map, List.getElem?_eq_getElem h]; rfl
theorem ints_set {l : List Int} {v x : Int} (p : Nat) (hv : v.toNat = p) (h : p < l.length) : (ints l).take (0 + v.toNat * 1) ++ [I x] ++ (ints l).drop (0 + v.toNat * 1 + 1) = ints (l.set p x) := by
  rw [hv, Nat.zero_add, Nat.mul_one, List.set_eq_take_append_cons_drop, if_pos h]
  simp
section
variable {P : Program} {r : Option Nat} {N : Nat} {ops : Array Oper} {rest : List Oper} {Q : Exit → Act → World → Prop} {E : Env} {ds : List Deferred} {M : List HP} {F : List Fact}
variable {d : Nat} {ty : TypeId} {pos : String} {aft : Array Edge} {gd : Option (Nat × Bool)}
end
end Go.GL

namespace Go.Proofs.Ytkdeopioelocnaa
open Go.GL
set_option linter.unusedVariables false
theorem ya_tl22 : tySlice Try.prog 22 3 = true := by kernel_rfl
theorem ya_ts3 : tyScalar Try.prog 3 = true := by kernel_rfl
theorem ya_tz3 : tySize Try.prog 3 1 = true := by kernel_rfl
theorem isnan_spec {a : Int} {M : List HP} {F : List Fact} : Ctr Try.prog 122 [I a] M F Unit (fun _ => .bool false) (fun _ => M) (fun _ => F) := by
  refine Ctr.body Try.func122 rfl rfl ?_
  refine TR.seq ?_
  refine TR.region ?_
  refine RL.assign rfl rfl rfl ?_
  refine RL.nil ?_
  refine NX.seq ?_
  refine TR.seq ?_
  refine TR.region ?_
  refine RL.move rfl rfl rfl ?_
  refine RL.move rfl rfl rfl ?_
  refine RL.bin rfl rfl rfl BinV.neq rfl ?_
  refine RL.assign rfl rfl rfl ?_
  refine RL.nil ?_
  refine NX.seq ?_
  refine TR.ret ?_
  exact NX.ret1 () rfl rfl (congrArg Value.bool (decide_eq_false (by simp))) (fun w hw => hw)
theorem less_spec {a b : Int} {M : List HP} {F : List Fact} : Ctr Try.prog 112 [I a, I b] M F Unit (fun _ => .bool (decide (a < b))) (fun _ => M) (fun _ => F) := by
  refine Ctr.body Try.func112 rfl rfl ?_
  refine TR.seq ?_
  refine TR.region ?_
  refine RL.assign rfl rfl rfl ?_
  refine RL.nil ?_
  refine NX.seq ?_
  refine TR.seq ?_
  refine TR.region ?_
  refine RL.move rfl rfl rfl ?_
  refine RL.call rfl rfl Try.call122 rfl (isnan_spec) (fun _ => ?_)
  refine RL.move rfl rfl rfl ?_
  refine RL.skip rfl rfl rfl ?_
  refine RL.skip rfl rfl rfl ?_
  refine RL.skip rfl rfl rfl ?_
  refine RL.pickF rfl rfl rfl rfl ?_
  refine RL.move rfl rfl rfl ?_
  refine RL.move rfl rfl rfl ?_
  refine RL.move rfl rfl rfl ?_
  refine RL.bin rfl rfl rfl BinV.lss rfl ?_
  refine RL.pickF rfl rfl rfl rfl ?_
  refine RL.assign rfl rfl rfl ?_
  refine RL.nil ?_
  refine NX.seq ?_
  refine TR.ret ?_
  exact NX.ret1 () rfl rfl rfl (fun w hw => hw)
structure SoX where
  l : List Int
  j : Nat
theorem isort_spec {l0 : List Int} {oa : Option Addr} {c : Nat} {M : List HP} {F : List Fact} (hl : l0.length ≤ 4611686018427387904) : Ctr Try.prog 106 [.slice oa l0.length c, I 0, I (l0.length : Nat)] (OwnSl 3 1 oa l0.length c (ints l0) :: M) F {l : List Int // l.Perm l0 ∧ Ord l l0.length} (fun _ => .tuple #[]) (fun z => OwnSl 3 1 oa l0.length c (ints z.1) :: M) (fun _ => F) := by
  refine Ctr.body Try.func106 rfl rfl ?_
  refine TR.seq ?_
  refine TR.region ?_
  refine RL.move rfl rfl rfl ?_
  refine RL.bin rfl rfl rfl (BinV.add _ rfl (by omega) (by omega)) rfl ?_
  refine RL.assign rfl rfl rfl ?_
  refine RL.nil ?_
  refine NX.seq ?_
  refine TR.block ?_
  refine TR.loopP (ι := SoX) (fun x => x.l.length = l0.length ∧ x.l.Perm l0 ∧ 1 ≤ x.j ∧ Ord x.l x.j) (fun x => [(0, .slice oa l0.length c), (1, I 0), (2, I (l0.length : Nat)), (6, I x.j)]) (fun x => OwnSl 3 1 oa l0.length c (ints x.l) :: M) (fun _ => F) (fun x => l0.length + 1 - x.j) ⟨l0, 1⟩ ⟨rfl, List.Perm.refl _, Nat.le_refl _, fun p q h1 h2 => absurd (show q < 1 from h2) (by omega)⟩ ⟨rfl, rfl, rfl, rfl, trivial⟩ (fun w hw => hw) (fun x hx => ?_)
  refine TR.seq ?_
  refine TR.seq ?_
  refine TR.region ?_
  refine RL.move rfl rfl rfl ?_
  refine RL.move rfl rfl rfl ?_
  refine RL.bin rfl rfl rfl BinV.lss rfl ?_
  refine RL.nil ?_
  refine NX.seq ?_
  refine TR.cond rfl (fun h1 => ?_) (fun h1 => ?_)
  · skip
    have hi : x.j < l0.length := by have := of_decide_eq_true h1; omega
    refine TR.openP (fun w hw => own_at (i := 0) (M := _ :: M) rfl (ints_ne (by omega)) hw) (fun g hga => ?_)
    refine TR.skip ?_
    refine NX.seq ?_
    refine TR.seq ?_
    refine TR.block ?_
    refine TR.seq ?_
    refine TR.region ?_
    refine RL.move rfl rfl rfl ?_
    refine RL.assign rfl rfl rfl ?_
    refine RL.nil ?_
    refine NX.seq ?_
    refine TR.block ?_
    refine TR.loopP (ι := SoX) (fun y => y.l.length = l0.length ∧ y.l.Perm l0 ∧ y.j ≤ x.j ∧ OrdBut y.l x.j y.j) (fun y => [(0, .slice oa l0.length c), (1, I 0), (2, I (l0.length : Nat)), (6, I x.j), (7, I y.j)]) (fun y => OwnSl 3 1 oa l0.length c (ints y.l) :: M) (fun _ => F) (fun y => y.j) ⟨x.l, x.j⟩ ⟨hx.1, hx.2.1, Nat.le_refl _, OrdBut.start hx.2.2.2⟩ ⟨rfl, rfl, rfl, rfl, rfl, trivial⟩ (fun w hw => hw) (fun y hy => ?_)
    refine TR.seq ?_
    refine TR.seq ?_
    refine TR.sub (E' := [(0, _), (1, _), (2, _), (6, _), (7, _)]) ⟨rfl, rfl, rfl, rfl, rfl, trivial⟩ ?_
    refine TR.draw mixed ?_
    cases h2 : decide ((0 : Int) < (y.j : Int))
    · skip
      have hs : y.j = 0 ∨ ¬ iAt y.l y.j < iAt y.l (y.j - 1) := Or.inl (by have := of_decide_eq_false h2; omega)
      apply AR.more [(0, _), (1, _), (2, _), (3, .bool false), (4, undef), (5, undef), (6, undef), (7, undef), (8, undef), (9, undef), (10, undef), (11, undef), (12, undef), (13, undef), (14, .bool false)]
      refine AR.last [0, 1, 2, 3, 4, 5, 6, 7, 8, 9, 10, 11, 12, 13, 14] [0, 1, 2, 3, 4, 5, 6, 7, 8, 9, 10, 11, 12, 13, 14] ⟨QOne.yes rfl rfl rfl (PV.move rfl), QOne.yes rfl rfl rfl (PV.move rfl), QOne.yes rfl rfl rfl (PV.bin rfl rfl BinV.gtr), QOne.yes rfl rfl rfl (PV.cast (congrArg Value.bool h2) (PV.move rfl)), QOne.no rfl rfl rfl, QOne.no rfl rfl rfl, QOne.no rfl rfl rfl, QOne.no rfl rfl rfl, QOne.no rfl rfl rfl, QOne.no rfl rfl rfl, QOne.no rfl rfl rfl, QOne.no rfl rfl rfl, QOne.no rfl rfl rfl, QOne.no rfl rfl rfl, QOne.yes rfl rfl rfl (PV.pickF rfl rfl), trivial⟩ rfl rfl rfl ?_
      refine NX.sub (E' := [(0, _), (1, _), (2, _), (6, _), (7, _), (16, _), (17, _), (18, _), (19, _), (20, _), (21, _), (22, _), (23, _), (24, _), (25, _), (26, _), (27, _), (28, _), (29, _), (30, _)]) ⟨rfl, rfl, rfl, rfl, rfl, rfl, rfl, rfl, rfl, rfl, rfl, rfl, rfl, rfl, rfl, rfl, rfl, rfl, rfl, rfl, trivial⟩ ?_
      refine NX.seq ?_
      refine TR.condF rfl ?_
      refine TR.exit ?_
      refine NX.exitThen ?_
      refine NX.exitThen ?_
      refine NX.exitHere ?_
      refine NX.off ?_
      refine NX.seq ?_
      refine TR.region ?_
      refine RL.move rfl rfl rfl ?_
      refine RL.bin rfl rfl rfl (BinV.add _ rfl (by omega) (by omega)) rfl ?_
      refine RL.assign rfl rfl rfl ?_
      refine RL.nil ?_
      refine NX.roundP ⟨y.l, x.j + 1⟩ ⟨hy.1, hy.2.1, by show 1 ≤ x.j + 1; omega, hy.2.2.2.stop hy.2.2.1 hs⟩ (by show l0.length + 1 - (x.j + 1) < l0.length + 1 - x.j; omega) ⟨rfl, rfl, rfl, rfl, trivial⟩ (fun w hw => hw)
    · skip
      have hj0 : 0 < y.j := by have := of_decide_eq_true h2; omega
      apply AR.more [(0, _), (1, _), (2, _), (3, .bool true), (4, _), (5, _), (6, _), (7, _), (8, _), (9, _), (10, _), (11, _), (12, _)]
      refine AR.eff [0, 1, 2, 3, 4, 5, 6, 7, 8, 9, 10, 11, 12] 13 [0, 1, 2, 3, 4, 5, 6, 7, 8, 9, 10, 11, 12, 13, 14] ⟨QOne.yes rfl rfl rfl (PV.move rfl), QOne.yes rfl rfl rfl (PV.move rfl), QOne.yes rfl rfl rfl (PV.bin rfl rfl BinV.gtr), QOne.yes rfl rfl rfl (PV.cast (congrArg Value.bool h2) (PV.move rfl)), QOne.yes rfl rfl rfl (PV.move rfl), QOne.yes rfl rfl rfl (PV.move rfl), QOne.yes rfl rfl rfl (PV.indexAddr ya_tl22 ya_tz3 (congrArg (fun a => some (Value.slice a _ _)) hga) rfl (by omega) (by omega)), QOne.yes rfl rfl rfl (PV.loadS rfl (own_one (i := 0) rfl hga ya_ts3 (ints_iAt (y.j) (by omega) (by omega)))), QOne.yes rfl rfl rfl (PV.move rfl), QOne.yes rfl rfl rfl (PV.move rfl), QOne.yes rfl rfl rfl (PV.bin rfl rfl (BinV.sub _ rfl (by omega) (by omega))), QOne.yes rfl rfl rfl (PV.indexAddr ya_tl22 ya_tz3 (congrArg (fun a => some (Value.slice a _ _)) hga) rfl (by omega) (by omega)), QOne.yes rfl rfl rfl (PV.loadS rfl (own_one (i := 0) rfl hga ya_ts3 (ints_iAt (y.j - 1) (by omega) (by omega)))), trivial⟩ rfl rfl rfl rfl rfl rfl rfl (EV.call rfl Try.call112 (less_spec)) (fun _ => ?_)
      refine AR.done [7, 12, 3, 2, 11, 6, 4, 5, 8, 10, 0, 1, 9] rfl ?_
      apply AR.more [(14, _)]
      refine AR.last [14] [0, 1, 2, 3, 4, 5, 6, 7, 8, 9, 10, 11, 12, 13, 14] ⟨QOne.yes rfl rfl rfl (PV.pickT rfl rfl), trivial⟩ rfl rfl rfl ?_
      refine NX.sub (E' := [(0, _), (1, _), (2, _), (6, _), (7, _), (16, _), (17, _), (18, _), (19, _), (20, _), (21, _), (22, _), (23, _), (24, _), (25, _), (26, _), (27, _), (28, _), (29, _), (30, _)]) ⟨rfl, rfl, rfl, rfl, rfl, rfl, rfl, rfl, rfl, rfl, rfl, rfl, rfl, rfl, rfl, rfl, rfl, rfl, rfl, rfl, trivial⟩ ?_
      refine NX.seq ?_
      refine TR.cond rfl (fun h3 => ?_) (fun h3 => ?_)
      · skip
        have hlt : iAt y.l y.j < iAt y.l (y.j - 1) := of_decide_eq_true h3
        refine TR.skip ?_
        refine NX.seq ?_
        refine TR.seq ?_
        refine TR.block ?_
        refine TR.sub (E' := [(0, _), (1, _), (2, _), (6, _), (7, _), (16, _), (17, _), (18, _), (19, _), (20, _), (21, _), (22, _), (23, _), (24, _), (25, _), (26, _), (27, _), (28, _), (29, _), (30, _)]) ⟨rfl, rfl, rfl, rfl, rfl, rfl, rfl, rfl, rfl, rfl, rfl, rfl, rfl, rfl, rfl, rfl, rfl, rfl, rfl, rfl, trivial⟩ ?_
        refine TR.draw mixed ?_
        apply AR.more [(0, _), (1, _), (2, _), (3, _), (4, _), (5, _), (6, _), (7, _), (8, _), (9, _), (10, _), (11, _), (12, _), (13, _), (14, _)]
        refine AR.eff [0, 1, 2, 3, 4, 5, 6, 7, 8, 9, 10, 11, 12, 13, 14] 15 [0, 1, 2, 3, 4, 5, 6, 7, 8, 9, 10, 11, 12, 13, 14, 15, 16, 17] ⟨QOne.yes rfl rfl rfl (PV.move rfl), QOne.yes rfl rfl rfl (PV.move rfl), QOne.yes rfl rfl rfl (PV.move rfl), QOne.yes rfl rfl rfl (PV.move rfl), QOne.yes rfl rfl rfl (PV.bin rfl rfl (BinV.sub _ rfl (by omega) (by omega))), QOne.yes rfl rfl rfl (PV.move rfl), QOne.yes rfl rfl rfl (PV.move rfl), QOne.yes rfl rfl rfl (PV.bin rfl rfl (BinV.sub _ rfl (by omega) (by omega))), QOne.yes rfl rfl rfl (PV.indexAddr ya_tl22 ya_tz3 (congrArg (fun a => some (Value.slice a _ _)) hga) rfl (by omega) (by omega)), QOne.yes rfl rfl rfl (PV.loadS rfl (own_one (i := 0) rfl hga ya_ts3 (ints_iAt (y.j - 1) (by omega) (by omega)))), QOne.yes rfl rfl rfl (PV.move rfl), QOne.yes rfl rfl rfl (PV.move rfl), QOne.yes rfl rfl rfl (PV.indexAddr ya_tl22 ya_tz3 (congrArg (fun a => some (Value.slice a _ _)) hga) rfl (by omega) (by omega)), QOne.yes rfl rfl rfl (PV.loadS rfl (own_one (i := 0) rfl hga ya_ts3 (ints_iAt (y.j) (by omega) (by omega)))), QOne.yes rfl rfl rfl (PV.indexAddr ya_tl22 ya_tz3 (congrArg (fun a => some (Value.slice a _ _)) hga) rfl (by omega) (by omega)), trivial⟩ rfl rfl rfl rfl rfl rfl rfl (EV.storeO (vs := [I (iAt y.l (y.j - 1))]) 0 rfl rfl rfl hga ya_tz3 rfl (by simp; omega) rfl) (fun _ => ?_)
        refine AR.done [14, 9, 0, 1, 5, 6, 7, 8, 13, 12, 10, 11] rfl ?_
        apply AR.more [(16, _)]
        refine AR.eff [2, 3, 4, 16] 17 [0, 1, 2, 3, 4, 5, 6, 7, 8, 9, 10, 11, 12, 13, 14, 15, 16, 17] ⟨QOne.yes rfl rfl rfl (PV.move rfl), QOne.yes rfl rfl rfl (PV.move rfl), QOne.yes rfl rfl rfl (PV.bin rfl rfl (BinV.sub _ rfl (by omega) (by omega))), QOne.yes rfl rfl rfl (PV.indexAddr ya_tl22 ya_tz3 (congrArg (fun a => some (Value.slice a _ _)) hga) rfl (by omega) (by omega)), trivial⟩ rfl rfl rfl rfl rfl rfl rfl (EV.storeO (vs := [I (iAt y.l y.j)]) 0 rfl rfl rfl hga ya_tz3 rfl (by simp; omega) rfl) (fun _ => ?_)
        refine AR.done [16, 2, 3, 4] rfl ?_
        refine AR.last [] [0, 1, 2, 3, 4, 5, 6, 7, 8, 9, 10, 11, 12, 13, 14, 15, 16, 17] trivial rfl rfl rfl ?_
        refine NX.sub (E' := [(0, _), (1, _), (2, _), (6, _), (7, _), (16, _), (17, _), (18, _), (19, _), (20, _), (21, _), (22, _), (23, _), (24, _), (25, _), (26, _), (27, _), (28, _), (29, _), (30, _), (33, _), (34, _), (35, _), (36, _), (37, _), (38, _), (39, _), (40, _), (41, _), (42, _), (43, _), (44, _), (45, _), (46, _), (47, _), (48, _)]) ⟨rfl, rfl, rfl, rfl, rfl, rfl, rfl, rfl, rfl, rfl, rfl, rfl, rfl, rfl, rfl, rfl, rfl, rfl, rfl, rfl, rfl, rfl, rfl, rfl, rfl, rfl, rfl, rfl, rfl, rfl, rfl, rfl, rfl, rfl, rfl, rfl, trivial⟩ ?_
        refine NX.off ?_
        refine NX.seq ?_
        refine TR.region ?_
        refine RL.move rfl rfl rfl ?_
        refine RL.bin rfl rfl rfl (BinV.sub _ rfl (by omega) (by omega)) rfl ?_
        refine RL.assign rfl rfl rfl ?_
        refine RL.nil ?_
        refine NX.roundP ⟨swp y.l y.j, y.j - 1⟩ ⟨(swp_len _ _).trans hy.1, (swp_perm (by omega) hj0).trans hy.2.1, by show y.j - 1 ≤ _; omega, hy.2.2.2.step (by omega) hy.2.2.1 hj0 hlt⟩ (by show y.j - 1 < y.j; omega) ⟨rfl, rfl, rfl, rfl, ?_, trivial⟩ (fun w hw => ?_)
        · show some (I ((y.j : Int) - 1)) = some (I ((y.j - 1 : Nat) : Int)); congr 2; omega
        · have h9 := hw
          have e1 := ints_set (l := y.l) (v := (y.j : Int)) (x := iAt y.l (y.j - 1)) y.j (by omega) (by omega)
          have e2 := ints_set (l := y.l.set y.j (iAt y.l (y.j - 1))) (v := (y.j : Int) - 1) (x := iAt y.l y.j) (y.j - 1) (by omega) (by rw [List.length_set]; omega)
          show St w (OwnSl 3 1 oa l0.length c (ints (swp y.l y.j)) :: M) F
          unfold swp
          rw [← e2, ← e1]
          exact hw
      · skip
        have hs : y.j = 0 ∨ ¬ iAt y.l y.j < iAt y.l (y.j - 1) := Or.inr (of_decide_eq_false h3)
        refine TR.exit ?_
        refine NX.exitThen ?_
        refine NX.exitThen ?_
        refine NX.exitHere ?_
        refine NX.off ?_
        refine NX.seq ?_
        refine TR.region ?_
        refine RL.move rfl rfl rfl ?_
        refine RL.bin rfl rfl rfl (BinV.add _ rfl (by omega) (by omega)) rfl ?_
        refine RL.assign rfl rfl rfl ?_
        refine RL.nil ?_
        refine NX.roundP ⟨y.l, x.j + 1⟩ ⟨hy.1, hy.2.1, by show 1 ≤ x.j + 1; omega, hy.2.2.2.stop hy.2.2.1 hs⟩ (by show l0.length + 1 - (x.j + 1) < l0.length + 1 - x.j; omega) ⟨rfl, rfl, rfl, rfl, trivial⟩ (fun w hw => hw)
  · skip
    have hi : ¬ x.j < l0.length := by have := of_decide_eq_false h1; omega
    refine TR.exit ?_
    refine NX.exitThen ?_
    refine NX.exitThen ?_
    refine NX.exitHere ?_
    refine NX.end0 (⟨x.l, hx.2.1, ?_⟩ : {l : List Int // l.Perm l0 ∧ Ord l l0.length}) rfl rfl (fun w hw => hw)
    exact fun p q h1 h2 => hx.2.2.2 p q h1 (by omega)
end Go.Proofs.Ytkdeopioelocnaa

namespace Go.Proofs.Ytkdeopioelocnaa
open Go.GL
set_option linter.unusedVariables false
theorem pdq_spec {l0 : List Int} {oa : Option Addr} {c : Nat} {n : Int} {M : List HP} {F : List Fact} (h12 : l0.length ≤ 12) (hl : l0.length ≤ 4611686018427387904) : Ctr Try.prog 98 [.slice oa l0.length c, I 0, I (l0.length : Nat), I n] (OwnSl 3 1 oa l0.length c (ints l0) :: M) F {l : List Int // l.Perm l0 ∧ Ord l l0.length} (fun _ => .tuple #[]) (fun z => OwnSl 3 1 oa l0.length c (ints z.1) :: M) (fun _ => F) := by
  refine Ctr.body Try.func98 rfl rfl ?_
  refine TR.seq ?_
  refine TR.region ?_
  refine RL.assign rfl rfl rfl ?_
  refine RL.nil ?_
  refine NX.seq ?_
  refine TR.seq ?_
  refine TR.region ?_
  refine RL.assign rfl rfl rfl ?_
  refine RL.nil ?_
  refine NX.seq ?_
  refine TR.block ?_
  refine TR.loopP (ι := Nat) (fun k => k ≤ 0) (fun _ => [(0, .slice oa l0.length c), (1, I 0), (2, I (l0.length : Nat))]) (fun _ => OwnSl 3 1 oa l0.length c (ints l0) :: M) (fun _ => F) (fun k => k) 0 (Nat.le_refl _) ⟨rfl, rfl, rfl, trivial⟩ (fun w hw => hw) (fun k hk => ?_)
  refine TR.block ?_
  refine TR.seq ?_
  refine TR.region ?_
  refine RL.move rfl rfl rfl ?_
  refine RL.move rfl rfl rfl ?_
  refine RL.bin rfl rfl rfl (BinV.sub _ rfl (by omega) (by omega)) rfl ?_
  refine RL.assign rfl rfl rfl ?_
  refine RL.nil ?_
  refine NX.seq ?_
  refine TR.seq ?_
  refine TR.seq ?_
  refine TR.region ?_
  refine RL.move rfl rfl rfl ?_
  refine RL.bin rfl rfl rfl (BinV.to (d := true) BinV.leq (decide_eq_true (by omega))) rfl ?_
  refine RL.nil ?_
  refine NX.seq ?_
  refine TR.condT rfl ?_
  refine TR.seq ?_
  refine TR.region ?_
  refine RL.move rfl rfl rfl ?_
  refine RL.move rfl rfl rfl ?_
  refine RL.move rfl rfl rfl ?_
  refine RL.call rfl rfl Try.call106 rfl (isort_spec hl) (fun z => ?_)
  refine RL.nil ?_
  refine NX.seq ?_
  refine TR.ret ?_
  refine NX.retThen ?_
  refine NX.retBlock ?_
  refine NX.retThen ?_
  refine NX.retBlock ?_
  exact NX.ret0 z rfl rfl (fun w hw => hw)
end Go.Proofs.Ytkdeopioelocnaa

namespace Go.GL
set_option linter.unusedVariables false
def IterG (P : Program) (gf : FuncId) (cap : List Value) {α : Type} (enc : α → List Value → Prop) (step : List α → α → Prop) (fin : List α → Prop) (L0 : List HP) (F : List Fact) : Prop :=
  ∀ (l : Nat) (J : List α → List HP),
    (∀ pre x args, step pre x → enc x args → ∀ Mi G, (∀ φ, φ ∈ F → φ ∈ G) → YSpec P l args (J pre ++ Mi) G (J (pre ++ [x]) ++ Mi)) →
    ∀ Mi G, (∀ φ, φ ∈ F → φ ∈ G) → Ctr P gf (.func (.yield l) #[] #[] :: cap) (J [] ++ (L0 ++ Mi)) G {xs : List α // fin xs} (fun _ => .tuple #[]) (fun xs => J xs.1 ++ (L0 ++ Mi)) (fun _ => G)
section
variable {P : Program} {r : Option Nat} {N : Nat} {ops : Array Oper} {rest : List Oper} {Q : Exit → Act → World → Prop} {E : Env} {ds : List Deferred} {M : List HP} {F : List Fact}
theorem TR.rangeFuncG {α : Type} {g : Operand} {ps : List Nat} {assign body : Code} {gf : FuncId} {cap : List Value} {enc : α → List Value → Prop} {step : List α → α → Prop} {fin : List α → Prop} {L0 : List HP} {κ : Type}
    (hg : evalO E g = some (.func (.func gf) #[] cap.toArray)) (hcall : ∀ args w, (callFunc gf args).run P w = .ok (.enter gf args) w) (hps : ∀ p, p ∈ ps → Nat.ble (p + 1) N = true) (hlen : ∀ x args, enc x args → args.length = ps.length)
    (hit : IterG P gf cap enc step fin L0 F) (J : List α → List HP) (Mr : List HP) (hJ : ∀ w, St w M F → St w (J [] ++ (L0 ++ Mr)) F)
    (E1 : List α → α → List Value → κ → Env) (M1 : List α → α → List Value → κ → List HP)
    (hassign : ∀ l pre x args, step pre x → enc x args → ∀ Mi G, (∀ φ, φ ∈ F → φ ∈ G) →
      TR P (some l) N assign (Exit.then (fun a w => ∃ i, Sat N (E1 pre x args i) [] a ∧ St w (M1 pre x args i ++ Mi) G) (fun _ _ _ => False)) (envAt ps args E) [] (J pre ++ Mi) G)
    (hbody : ∀ l pre x args i, step pre x → enc x args → ∀ Mi G, (∀ φ, φ ∈ F → φ ∈ G) →
      TR P (some l) N body (RoundQ (J (pre ++ [x]) ++ Mi) G) (E1 pre x args i) [] (M1 pre x args i ++ Mi) G)
    (k : ∀ xs, fin xs → ∀ D, NX N .normal Q E ({ target := .collected D, args := #[] } :: ds) (Pts D (.deferred (some [])) :: (J xs ++ (L0 ++ Mr))) F) :
    TR P none N (.rangeFunc g ps.toArray assign body) Q E ds M F := by
  intro a w ha hw
  refine wpIn_rangeFunc fun fn _ => ?_
  obtain ⟨rec, hrec⟩ : ∃ rec : LoopState → Option Code → Loop, rec = fun st pe => { state := st, pending := pe, fn, tmps := a.tmps, params := ps.toArray, assign, body, defers := w.heap.size } := ⟨_, rfl⟩
  obtain ⟨W1, hW1⟩ : ∃ W1, W1 = (w.alloc (.deferred (some []))).alloc (.loop (rec .ready none)) := ⟨_, rfl⟩
  have h1 : St W1 (Pts (w.heap.size + 1) (.loop (rec .ready none)) :: Pts w.heap.size (.deferred (some [])) :: (J [] ++ (L0 ++ Mr))) F := by
    have := ((hJ w hw).alloc (.deferred (some []))).alloc (.loop (rec .ready none))
    rw [World.size_alloc] at this
    rw [hW1]
    exact this
  refine ⟨w.heap.size + 1, [{ target := .collected w.heap.size, args := #[] }], W1, { target := .fn (.func gf) cap.toArray, args := #[.func (.yield (w.heap.size + 1)) #[] #[]] }, W1, gf,
    (.func (.yield (w.heap.size + 1)) #[] #[] :: cap).toArray, W1, ?_, ?_, fun _ _ => trivial, ?_, fun h => by simp at h, ?_⟩
  · rw [hW1, hrec]; exact run_enterLoop_outer _ _ _ _ _
  · have e0 := ha.eval hg
    have e1 : a.eval (.const (.func (.yield (w.heap.size + 1)) #[] #[])) = .func (.yield (w.heap.size + 1)) #[] #[] := rfl
    simp only [resolve, e0, Deferred.ofValue]
    simp [e1]
  · simp [invoke, hcall]
  · have hJ' := hit (w.heap.size + 1) (fun pre => Pts (w.heap.size + 1) (.loop (rec .ready none)) :: J pre) ?_ (Pts w.heap.size (.deferred (some [])) :: Mr) F (fun _ h => h)
    · have hp : ∀ (r : HP) (L : List HP), (r :: Pts w.heap.size (.deferred (some [])) :: (L ++ (L0 ++ Mr))).Perm ((r :: L) ++ (L0 ++ (Pts w.heap.size (.deferred (some [])) :: Mr))) := fun r L => by
        refine List.Perm.cons r ((List.perm_middle.symm).trans ?_)
        exact List.Perm.append_left L List.perm_middle.symm
      obtain ⟨hF, hc⟩ := hJ' _ (h1.perm (hp _ _))
      refine ⟨hF, fun cs hr => ?_⟩
      obtain ⟨e, w', fr, ⟨xs, he, hst⟩, rest'⟩ := hc cs hr
      subst he
      refine ⟨_, w', fr, ?_, rest'⟩
      have hst' := hst.perm (hp _ _).symm
      have hl := hst'.heap (i := 0) rfl
      refine ⟨none, _, by have := run_endLoop (P := P) hl (by rw [hrec]; simp); rw [hrec] at this; exact this, ?_⟩
      exact k xs.1 xs.2 w.heap.size _ _ (ha.ends _) ((hst'.putObj (i := 0) rfl).tail) |> fun h => by rw [ha.defers]; exact h
    · intro pre x args hx he Mi G hG W hW
      have hW : St W (Pts (w.heap.size + 1) (.loop (rec .ready none)) :: (J pre ++ Mi)) G := hW
      have hl := hW.heap (i := 0) rfl
      have hy := run_yield (P := P) (args := args.toArray) hl (by rw [hrec]; simp [hlen x args he])
      rw [hrec] at hy
      refine ⟨fn, _, assign, body, hy, roundIn_of_wpIn (F := Wd none) trivial ?_⟩
      have hS : Sat N (envAt ps args E) [] ⟨(ps.zip args).foldl (fun t (p, v) => t.setIfInBounds p v) a.tmps, []⟩ := Sat.params ps args (ha.ends []) hps
      have hz : ((ps.toArray.zip args.toArray).foldl (fun tmps (t, a) => tmps.setIfInBounds t a) a.tmps) = (ps.zip args).foldl (fun t (p, v) => t.setIfInBounds p v) a.tmps := by simp
      have hper : ∀ (r : HP) (L L' : List HP), (r :: (L ++ L')).Perm (L ++ (r :: L')) := fun r L L' => List.perm_middle.symm
      refine wpIn_mono (hassign (w.heap.size + 1) pre x args hx he (Pts (w.heap.size + 1) (.loop (rec .ready none)) :: Mi) G hG _ W (by simp only; rw [hz]; exact hS) (hW.perm (hper _ _ _))) ?_
      intro e a1 w1 hq
      cases e with
      | normal =>
        obtain ⟨i, hs1, hw1⟩ := hq
        have hw1' := hw1.perm (hper _ _ _).symm
        have hl1 := hw1'.heap (i := 0) rfl
        refine ⟨_, run_beginRound hl1 (by rw [hrec]), ?_⟩
        have hw2 := (hw1'.putObj (o' := .loop { rec .ready none with state := .busy }) (i := 0) rfl)
        refine wpIn_mono (hbody (w.heap.size + 1) pre x args i hx he (Pts (w.heap.size + 1) (.loop { rec .ready none with state := .busy }) :: Mi) G hG a1 _ hs1 (hw2.perm (hper _ _ _))) ?_
        intro e a3 w3 hq3
        cases e with
        | normal =>
          have hw3 : St w3 (J (pre ++ [x]) ++ (Pts (w.heap.size + 1) (.loop { rec .ready none with state := .busy }) :: Mi)) G := hq3
          have hw3' := hw3.perm (hper _ _ _).symm
          have hl3 := hw3'.heap (i := 0) rfl
          refine ⟨_, _, run_endRound none hl3, (), rfl, ?_⟩
          have := hw3'.putObj (o' := .loop { rec .ready none with state := .ready }) (i := 0) rfl
          rw [hrec] at this ⊢
          exact this
        | _ => exact hq3.elim
      | _ => exact hq.elim
end
end Go.GL

namespace Go.GL
set_option linter.unusedVariables false
instance : DecidableEq Ed := fun a b => decidable_of_iff (a.f = b.f ∧ a.t = b.t ∧ a.x = b.x) ⟨fun ⟨h1, h2, h3⟩ => by cases a; cases b; simp_all, fun h => by subst h; exact ⟨rfl, rfl, rfl⟩⟩
theorem ed_eq {a b : Ed} : (a.f = b.f ∧ a.t = b.t ∧ a.x = b.x) ↔ a = b := ⟨fun ⟨h1, h2, h3⟩ => by cases a; cases b; simp_all, fun h => by subst h; exact ⟨rfl, rfl, rfl⟩⟩
def lcp : List UInt8 → List UInt8 → Nat
  | x :: a, y :: b => if x = y then lcp a b + 1 else 0
  | _, _ => 0
theorem lcp_stop : ∀ {a b : List UInt8} {p : Nat}, p ≤ a.length → p ≤ b.length → a.take p = b.take p → (p = a.length ∨ p = b.length ∨ a[p]? ≠ b[p]?) → lcp a b = p
  | [], b, p, h1, _, _, _ => by have : p = 0 := by simpa using h1
                                subst this; cases b <;> rfl
  | x :: a, [], p, _, h2, _, _ => by have : p = 0 := by simpa using h2
                                     subst this; rfl
  | x :: a, y :: b, 0, _, _, _, h => by
    rw [lcp]
    rcases h with h | h | h
    · simp at h
    · simp at h
    · rw [if_neg (fun e => h (by simp [e]))]
  | x :: a, y :: b, p + 1, h1, h2, h3, h => by
    simp only [List.take_succ_cons, List.cons.injEq] at h3
    rw [lcp, if_pos h3.1, lcp_stop (by simpa using h1) (by simpa using h2) h3.2 (by simpa using h)]
def diffE (a b : List UInt8) : List Ed :=
  if a = b then [] else
    let p := lcp a b
    let q := lcp (a.drop p).reverse (b.drop p).reverse
    [⟨p, ((a.length - q : Nat) : Int), (b.take (b.length - q)).drop p⟩]
theorem diffE_same {a b : List UInt8} (h : a = b) : diffE a b = [] := if_pos h
theorem diffE_is {a b : List UInt8} {p q : Nat} (h : ¬ a = b) (hp : lcp a b = p) (hq : lcp (a.drop p).reverse (b.drop p).reverse = q) : diffE a b = [⟨p, ((a.length - q : Nat) : Int), (b.take (b.length - q)).drop p⟩] := by
  subst hp; subst hq; exact if_neg h
theorem rev_take {a : List UInt8} {p y : Nat} (h : p + y ≤ a.length) : (a.drop p).reverse.take y = (a.drop (a.length - y)).reverse := by
  rw [List.take_reverse, List.length_drop, List.drop_drop]
  congr 2; omega
theorem rev_get {a : List UInt8} {p y : Nat} (h : p + y < a.length) : (a.drop p).reverse[y]? = some (a[a.length - 1 - y]'(by omega)) := by
  have hy : y < (a.drop p).length := by rw [List.length_drop]; omega
  rw [List.getElem?_reverse hy, List.getElem?_drop, List.length_drop, show p + (a.length - p - 1 - y) = a.length - 1 - y from by omega, List.getElem?_eq_getElem]
theorem suf_stop {a b : List UInt8} {p y : Nat} (h1 : p + y ≤ a.length) (h2 : p + y ≤ b.length) (h : a.drop (a.length - y) = b.drop (b.length - y)) (hs : p + y = a.length ∨ p + y = b.length ∨ ∃ (h3 : p + y < a.length) (h4 : p + y < b.length), a[a.length - 1 - y]'(by omega) ≠ b[b.length - 1 - y]'(by omega)) : lcp (a.drop p).reverse (b.drop p).reverse = y := by
  refine lcp_stop (by rw [List.length_reverse, List.length_drop]; omega) (by rw [List.length_reverse, List.length_drop]; omega) (by rw [rev_take h1, rev_take h2, h]) ?_
  rcases hs with hs | hs | ⟨h3, h4, hs⟩
  · exact .inl (by rw [List.length_reverse, List.length_drop]; omega)
  · exact .inr (.inl (by rw [List.length_reverse, List.length_drop]; omega))
  · refine .inr (.inr ?_)
    rw [rev_get h3, rev_get h4]
    exact fun e => hs (Option.some.inj e)
def sinceGo (t last : List UInt8) : List (List UInt8 × List Ed) → List Ed → List Ed
  | [], x => x
  | p :: ps, x => if (composeE t x p.2).2 ≠ 0 then diffE t last else sinceGo t last ps (composeE t x p.2).1
def sinceH (h : Hs) (ver : Int) : List Ed × Int := match idxH h ver with
  | some i => (sinceGo (h.hist.getD i ([], [])).1 h.tx (h.hist.drop (i + 1)) [], 0)
  | none => ([], 7)
theorem filter_txs (l : List Ed) (p : Ed → Bool) : txs (l.filter p) ≤ txs l := by
  induction l with
  | nil => exact Nat.le_refl _
  | cons a l ih =>
    have e1 : ∀ (a : Ed) (l : List Ed), txs (a :: l) = a.x.length + txs l := fun a l => by simp [txs]
    rw [List.filter_cons, e1]
    split
    · rw [e1]; omega
    · omega
theorem compose_txs {s t u : List UInt8} {a b : List Ed} (h1 : sound1 s.length 0 a = 0) (ht : t = applyGo s 0 a) (h2 : sound1 t.length 0 b = 0) (hu : u = applyGo t 0 b) : txs (composeL s t u a b) ≤ u.length := by
  obtain ⟨hB1, hB2, hB3, hB4⟩ := both_ok h1 ht h2 hu
  obtain ⟨g1, g2, g3, g4, g5, g6, g7⟩ := (gap_ok (u := u) (n := (s.length : Int)) (by omega) hB3 hB4).1
  unfold composeL
  refine Nat.le_trans (filter_txs _ _) ?_
  rw [(joinL_ok (n := s.length) (mem_snoc_all g3 ⟨g4, g5, Int.le_refl _⟩)).2.1, txs_snoc]
  show txs _ + (u.drop _).length ≤ _
  rw [List.length_drop]; omega
theorem composeE_txs {s : List UInt8} {a b : List Ed} (h : (composeE s a b).2 = 0) : txs (composeE s a b).1 ≤ s.length + txs a + txs b ∧ (composeE s a b).1.length ≤ 64 := by
  unfold composeE at h ⊢
  split at h
  · rename_i h1
    rw [if_pos h1]
    split at h
    · rename_i h2
      rw [if_pos h2]
      split at h
      · exact absurd (show (4 : Int) = 0 from h) (by decide)
      · rename_i h3
        rw [if_neg h3]
        have e1 := apply_le (s := s) (es := a) (q := 0) (soundE_sound1 h1)
        have e2 := apply_le (s := applyGo s 0 a) (es := b) (q := 0) (soundE_sound1 h2)
        have e3 := compose_txs (soundE_sound1 h1) rfl (soundE_sound1 h2) rfl
        exact ⟨by show txs (composeL _ _ _ _ _) ≤ _; omega, by show (composeL _ _ _ _ _).length ≤ 64; omega⟩
    · rename_i h2; exact absurd h h2
  · rename_i h1; exact absurd h h1
structure SiX where
  k : Nat
  x : List Ed
  oa : Option Addr
  c : Nat
end Go.GL

namespace Go.GL
set_option linter.unusedVariables false
set_option maxRecDepth 4000
theorem offGo_a {u : Int} {c : UInt8} {l : List UInt8} {i n : Int} (h : n < u) (h10 : ¬ c.toNat = 10) (hc : c.toNat < 128) : offGo u (c :: l) i n = offGo u l (i + 1) (n + 1) := by
  have e : charL (c :: l) = (1, 1) := by
    unfold charL
    have e0 : cb (c :: l) 0 = c.toNat := rfl
    rw [e0, if_neg (by omega), if_neg (by omega), if_neg (by omega)]
  have e9 := offGo_on (i := i) h (l := c :: l) (by simp) h10
  rw [e] at e9; exact e9
abbrev ab : List UInt8 := [97, 98]
abbrev axb : List UInt8 := [97, 120, 98]
abbrev axby : List UInt8 := [97, 120, 98, 121]
abbrev exX : List PE := [⟨⟨0, 1⟩, ⟨0, 1⟩, [120]⟩]
abbrev exY : List PE := [⟨⟨0, 3⟩, ⟨0, 3⟩, [121]⟩]
theorem ex_off1 : offM ab ⟨0, 1⟩ = (1, 0) := by
  unfold offM
  rw [if_neg (by decide)]
  show offGo 1 [97, 98] 0 0 = _
  rw [offGo_a (by decide) (by decide) (by decide), offGo_hit (by decide)]; rfl
theorem ex_off3 : offM axb ⟨0, 3⟩ = (3, 0) := by
  unfold offM
  rw [if_neg (by decide)]
  show offGo 3 [97, 120, 98] 0 0 = _
  rw [offGo_a (by decide) (by decide) (by decide), offGo_a (by decide) (by decide) (by decide), offGo_a (by decide) (by decide) (by decide), offGo_hit (by decide)]; rfl
theorem ex_pos1 : posM ab exX = ([⟨1, 1, [120]⟩], 0) := by
  unfold posM
  rw [if_neg (by decide), posGo_cons, ex_off1, if_neg (by decide), if_neg (by decide)]; rfl
theorem ex_pos3 : posM axb exY = ([⟨3, 3, [121]⟩], 0) := by
  unfold posM
  rw [if_neg (by decide), posGo_cons, ex_off3, if_neg (by decide), if_neg (by decide)]; rfl
abbrev h_0 : Hs := ⟨3, [(ab, [])], []⟩
abbrev h_1 : Hs := ⟨3, [(ab, [])], [(5, exY)]⟩
abbrev h_2 : Hs := ⟨3, [(ab, []), (axb, [⟨1, 1, [120]⟩]), (axby, [⟨3, 3, [121]⟩])], []⟩
theorem ex_recv1 : recvH h_0 5 exY = ((0, 0), h_1) := by
  unfold recvH
  rw [if_neg (by decide), if_neg (by decide), if_neg (by decide), if_pos (by decide), if_neg (by decide)]; rfl
theorem ex_app1 : appH h_1 exX = (0, ⟨3, [(ab, []), (axb, [⟨1, 1, [120]⟩])], [(5, exY)]⟩) := by
  unfold appH
  have e : posM h_1.tx exX = ([⟨1, 1, [120]⟩], 0) := ex_pos1
  rw [e, if_neg (by decide)]
  rfl
theorem ex_app2 : appH ⟨3, [(ab, []), (axb, [⟨1, 1, [120]⟩])], []⟩ exY = (0, h_2) := by
  unfold appH
  have e : posM (⟨3, [(ab, []), (axb, [⟨1, 1, [120]⟩])], []⟩ : Hs).tx exY = ([⟨3, 3, [121]⟩], 0) := ex_pos3
  rw [e, if_neg (by decide)]
  rfl
theorem ex_drain : drainH 1 ⟨3, [(ab, []), (axb, [⟨1, 1, [120]⟩])], [(5, exY)]⟩ = (2, h_2) := by
  rw [drainH_some (l := exY) rfl]
  show (if (appH ⟨3, [(ab, []), (axb, [⟨1, 1, [120]⟩])], []⟩ exY).1 = 0 then drainH (1 + 1) (appH ⟨3, [(ab, []), (axb, [⟨1, 1, [120]⟩])], []⟩ exY).2 else _) = _
  rw [ex_app2, if_pos rfl, drainH_none rfl]
  rfl
theorem ex_recv2 : recvH h_1 4 exX = ((2, 0), h_2) := by
  unfold recvH
  rw [if_neg (by decide), if_neg (by decide), if_neg (by decide), if_neg (by decide), ex_app1, if_neg (by decide), ex_drain]
theorem ex_recv3 : recvH h_2 4 exX = ((0, 8), h_2) := by
  unfold recvH
  rw [if_neg (by decide), if_neg (by decide), if_pos (by decide)]
theorem ex_since : sinceH h_2 3 = ([⟨1, 1, [120]⟩, ⟨2, 2, [121]⟩], 0) := by decide +kernel
end Go.GL

namespace Go.GL
set_option linter.unusedVariables false
def bords (l : List UInt8) (i : Int) : List Int := if h : 0 < l.length then i :: bords (l.drop (charL l).1) (i + (charL l).1) else [i]
termination_by l.length
decreasing_by
  have := (charL_pos l).1
  rw [List.length_drop]; omega
def unitsL (l : List UInt8) : Int := if h : 0 < l.length then (charL l).2 + unitsL (l.drop (charL l).1) else 0
termination_by l.length
decreasing_by
  have := (charL_pos l).1
  rw [List.length_drop]; omega
theorem bords_on {l : List UInt8} {i : Int} (h : 0 < l.length) : bords l i = i :: bords (l.drop (charL l).1) (i + (charL l).1) := by
  conv => lhs; unfold bords
  rw [dif_pos h]
theorem bords_end {l : List UInt8} {i : Int} (h : ¬ 0 < l.length) : bords l i = [i] := by
  unfold bords; rw [dif_neg h]
theorem unitsL_on {l : List UInt8} (h : 0 < l.length) : unitsL l = (charL l).2 + unitsL (l.drop (charL l).1) := by
  conv => lhs; unfold unitsL
  rw [dif_pos h]
theorem unitsL_end {l : List UInt8} (h : ¬ 0 < l.length) : unitsL l = 0 := by
  unfold unitsL; rw [dif_neg h]
theorem unitsL_in : ∀ (m : Nat) {l : List UInt8}, l.length ≤ m → 0 ≤ unitsL l ∧ unitsL l ≤ l.length
  | m, l, hm => by
    by_cases h : 0 < l.length
    · rw [unitsL_on h]
      have h1 := charL_pos l
      have h2 := charL_le h
      cases m with
      | zero => omega
      | succ m =>
        have h3 := unitsL_in m (l := l.drop (charL l).1) (by rw [List.length_drop]; omega)
        rw [List.length_drop] at h3
        omega
    · rw [unitsL_end h]; omega
theorem bords_len : ∀ (m : Nat) {l : List UInt8} {i : Int}, l.length ≤ m → (bords l i).length ≤ l.length + 1
  | m, l, i, hm => by
    by_cases h : 0 < l.length
    · rw [bords_on h, List.length_cons]
      have h1 := charL_pos l
      have h2 := charL_le h
      cases m with
      | zero => omega
      | succ m =>
        have h3 := bords_len m (l := l.drop (charL l).1) (i := i + (charL l).1) (by rw [List.length_drop]; omega)
        rw [List.length_drop] at h3
        omega
    · rw [bords_end h]; simp
theorem bords_in : ∀ (m : Nat) {l : List UInt8} {i k : Int}, l.length ≤ m → k ∈ bords l i → i ≤ k ∧ k ≤ i + l.length
  | m, l, i, k, hm, hk => by
    by_cases h : 0 < l.length
    · rw [bords_on h] at hk
      have h1 := charL_pos l
      have h2 := charL_le h
      rcases List.mem_cons.1 hk with rfl | hk
      · omega
      · cases m with
        | zero => omega
        | succ m =>
          have h3 := bords_in m (by rw [List.length_drop]; omega) hk
          rw [List.length_drop] at h3
          omega
    · rw [bords_end h] at hk
      have := List.mem_singleton.1 hk
      omega
theorem bords_shift : ∀ (m : Nat) {l : List UInt8} {i k d : Int}, l.length ≤ m → k ∈ bords l i → k + d ∈ bords l (i + d)
  | m, l, i, k, d, hm, hk => by
    by_cases h : 0 < l.length
    · rw [bords_on h] at hk ⊢
      have h1 := charL_pos l
      rcases List.mem_cons.1 hk with rfl | hk
      · exact .head _
      · cases m with
        | zero => omega
        | succ m =>
          have h3 := bords_shift m (d := d) (by rw [List.length_drop]; omega) hk
          rw [show i + (charL l).1 + d = i + d + (charL l).1 from by omega] at h3
          exact .tail _ h3
    · rw [bords_end h] at hk ⊢
      rw [List.mem_singleton.1 hk]; exact .head _
theorem bords_next {l : List UInt8} {k : Int} (hl : 0 < l.length) (h0 : k ≠ 0) (h : k ∈ bords l 0) : (charL l).1 ≤ k ∧ k - (charL l).1 ∈ bords (l.drop (charL l).1) 0 := by
  rw [bords_on hl] at h
  rcases List.mem_cons.1 h with h | h
  · exact absurd h h0
  · have h1 := bords_in _ (Nat.le_refl _) h
    have h2 := bords_shift _ (d := -((charL l).1 : Int)) (Nat.le_refl _) h
    rw [show (0 : Int) + (charL l).1 + -((charL l).1 : Int) = 0 from by omega, show k + -((charL l).1 : Int) = k - (charL l).1 from by omega] at h2
    exact ⟨by omega, h2⟩
theorem bords_back {l : List UInt8} {k : Int} (hl : 0 < l.length) (h : k - (charL l).1 ∈ bords (l.drop (charL l).1) 0) : k ∈ bords l 0 := by
  rw [bords_on hl]
  have h2 := bords_shift _ (d := ((charL l).1 : Int)) (Nat.le_refl _) h
  rw [show (0 : Int) + ((charL l).1 : Int) = 0 + (charL l).1 from rfl, show k - (charL l).1 + ((charL l).1 : Int) = k from by omega] at h2
  exact .tail _ h2
theorem bords_from : ∀ (m : Nat) {l : List UInt8} {a k : Nat}, l.length ≤ m → (a : Int) ∈ bords l 0 → (k : Int) ∈ bords l 0 → a ≤ k → ((k - a : Nat) : Int) ∈ bords (l.drop a) 0
  | m, l, a, k, hm, ha, hk, hak => by
    by_cases h0 : a = 0
    · subst h0; simpa using hk
    · by_cases hl : 0 < l.length
      · have h1 := charL_pos l
        have h2 := charL_le hl
        have h3 := bords_next hl (by omega) ha
        have h4 := bords_next hl (by omega) hk
        cases m with
        | zero => omega
        | succ m =>
          have h5 := bords_from m (l := l.drop (charL l).1) (a := a - (charL l).1) (k := k - (charL l).1) (by rw [List.length_drop]; omega) (by rw [Int.natCast_sub (by omega)]; exact h3.2) (by rw [Int.natCast_sub (by omega)]; exact h4.2) (by omega)
          rw [List.drop_drop, show (charL l).1 + (a - (charL l).1) = a from by omega, show k - (charL l).1 - (a - (charL l).1) = k - a from by omega] at h5
          exact h5
      · have := bords_in _ (Nat.le_refl _) ha
        omega
theorem cb_take {l : List UInt8} {m i : Nat} (h : i < m) : cb (l.take m) i = cb l i := by
  unfold cb; rw [List.getD_eq_getElem?_getD, List.getD_eq_getElem?_getD, List.getElem?_take, if_pos h]
theorem btw_take {l : List UInt8} {m i lo hi : Nat} (h : btw (l.take m) i lo hi) : btw l i lo hi := by
  obtain ⟨h1, h2, h3⟩ := h
  rw [List.length_take] at h1
  rw [cb_take (by omega)] at h2 h3
  exact ⟨by omega, h2, h3⟩
theorem btw_take2 {l : List UInt8} {m i lo hi : Nat} (him : i < m) (h : btw l i lo hi) : btw (l.take m) i lo hi := by
  obtain ⟨h1, h2, h3⟩ := h
  refine ⟨by rw [List.length_take]; omega, ?_, ?_⟩ <;> rw [cb_take him] <;> assumption
theorem charL_take {l : List UInt8} {m : Nat} (hm : 0 < m) (h : (charL l).1 ≤ m) : charL (l.take m) = charL l := by
  unfold charL at h ⊢
  rw [cb_take hm]
  generalize hc : cb l 0 = c at *
  have t : ∀ i lo hi, btw (l.take m) i lo hi → btw l i lo hi := fun i lo hi => btw_take
  by_cases h1 : 194 ≤ c ∧ c ≤ 223 ∧ btw l 1 128 191
  · rw [if_pos h1] at h ⊢
    have : (2 : Nat) ≤ m := h
    rw [if_pos ⟨h1.1, h1.2.1, btw_take2 (by omega) h1.2.2⟩]
  · rw [if_neg h1] at h ⊢
    rw [if_neg (fun e => h1 ⟨e.1, e.2.1, t _ _ _ e.2.2⟩)]
    by_cases h2 : 224 ≤ c ∧ c ≤ 239 ∧ btw l 1 (secB c).1 (secB c).2 ∧ btw l 2 128 191
    · rw [if_pos h2] at h ⊢
      have : (3 : Nat) ≤ m := h
      rw [if_pos ⟨h2.1, h2.2.1, btw_take2 (by omega) h2.2.2.1, btw_take2 (by omega) h2.2.2.2⟩]
    · rw [if_neg h2] at h ⊢
      rw [if_neg (fun e => h2 ⟨e.1, e.2.1, t _ _ _ e.2.2.1, t _ _ _ e.2.2.2⟩)]
      by_cases h3 : 240 ≤ c ∧ c ≤ 244 ∧ btw l 1 (secB c).1 (secB c).2 ∧ btw l 2 128 191 ∧ btw l 3 128 191
      · rw [if_pos h3] at h ⊢
        have : (4 : Nat) ≤ m := h
        rw [if_pos ⟨h3.1, h3.2.1, btw_take2 (by omega) h3.2.2.1, btw_take2 (by omega) h3.2.2.2.1, btw_take2 (by omega) h3.2.2.2.2⟩]
      · rw [if_neg h3]
        rw [if_neg (fun e => h3 ⟨e.1, e.2.1, t _ _ _ e.2.2.1, t _ _ _ e.2.2.2.1, t _ _ _ e.2.2.2.2⟩)]
theorem off_units : ∀ (m : Nat) {l : List UInt8} {k : Nat} {i n : Int}, l.length ≤ m → (k : Int) ∈ bords l 0 → (∀ j, j < k → cb l j ≠ 10) → offGo (n + unitsL (l.take k)) l i n = (i + k, 0)
  | m, l, k, i, n, hm, hk, h10 => by
    by_cases h0 : k = 0
    · subst h0
      rw [offGo_hit (by rw [unitsL_end (by simp)]; omega)]; simp
    · by_cases hl : 0 < l.length
      · have h1 := charL_pos l
        have h2 := charL_le hl
        have h3 := bords_next hl (by omega) hk
        have hkl := bords_in _ (Nat.le_refl _) hk
        have e1 : unitsL (l.take k) = (charL l).2 + unitsL ((l.drop (charL l).1).take (k - (charL l).1)) := by
          rw [unitsL_on (by rw [List.length_take]; omega), charL_take (by omega) (by omega), List.drop_take]
        have hu := unitsL_in _ (l := (l.drop (charL l).1).take (k - (charL l).1)) (Nat.le_refl _)
        cases m with
        | zero => omega
        | succ m =>
          have h5 := off_units m (l := l.drop (charL l).1) (k := k - (charL l).1) (i := i + (charL l).1) (n := n + (charL l).2) (by rw [List.length_drop]; omega) (by rw [Int.natCast_sub (by omega)]; exact h3.2) (fun j hj => by
            have := h10 ((charL l).1 + j) (by omega)
            unfold cb at this ⊢
            rw [List.getD_eq_getElem?_getD, List.getElem?_drop]
            rw [List.getD_eq_getElem?_getD] at this
            exact this)
          rw [e1, offGo_on (by omega) hl (h10 0 (by omega)), show n + ((charL l).2 + unitsL ((l.drop (charL l).1).take (k - (charL l).1))) = n + (charL l).2 + unitsL ((l.drop (charL l).1).take (k - (charL l).1)) from by omega, h5]
          congr 1; omega
      · have := bords_in _ (Nat.le_refl _) hk
        omega
theorem bords_nl : ∀ (m : Nat) {l : List UInt8} {j : Nat}, l.length ≤ m → j < l.length → cb l j = 10 → ((j + 1 : Nat) : Int) ∈ bords l 0
  | m, l, j, hm, hj, h10 => by
    have hl : 0 < l.length := by omega
    have h1 := charL_pos l
    have h2 := charL_le hl
    by_cases hc : j < (charL l).1
    · have hc1 : (charL l).1 = 1 := by
        have sec : ∀ c, 128 ≤ (secB c).1 := fun c => by unfold secB; repeat' split
                                                        all_goals decide
        unfold charL at hc ⊢
        split
        · rename_i g
          rw [if_pos g] at hc
          have hc : j < 2 := hc
          have g3 := g.2.2.2
          rcases (show j = 0 ∨ j = 1 by omega) with rfl | rfl <;> omega
        · rename_i g0
          rw [if_neg g0] at hc
          split
          · rename_i g
            rw [if_pos g] at hc
            have hc : j < 3 := hc
            have g3 := g.2.2.1.2
            have g4 := g.2.2.2.2
            have := sec (cb l 0)
            rcases (show j = 0 ∨ j = 1 ∨ j = 2 by omega) with rfl | rfl | rfl <;> omega
          · rename_i g1
            rw [if_neg g1] at hc
            split
            · rename_i g
              rw [if_pos g] at hc
              have hc : j < 4 := hc
              have g3 := g.2.2.1.2
              have g4 := g.2.2.2.1.2
              have g5 := g.2.2.2.2.2
              have := sec (cb l 0)
              rcases (show j = 0 ∨ j = 1 ∨ j = 2 ∨ j = 3 by omega) with rfl | rfl | rfl | rfl <;> omega
            · rfl
      have hj0 : j = 0 := by omega
      subst hj0
      refine bords_back hl ?_
      rw [hc1]
      show (0 : Int) ∈ bords _ 0
      by_cases h5 : 0 < (l.drop 1).length
      · rw [bords_on h5]; exact .head _
      · rw [bords_end h5]; exact .head _
    · cases m with
      | zero => omega
      | succ m =>
        have h5 := bords_nl m (l := l.drop (charL l).1) (j := j - (charL l).1) (by rw [List.length_drop]; omega) (by rw [List.length_drop]; omega) (by
          unfold cb at h10 ⊢
          rw [List.getD_eq_getElem?_getD] at h10 ⊢
          rw [List.getElem?_drop, show (charL l).1 + (j - (charL l).1) = j from by omega]; exact h10)
        refine bords_back hl ?_
        rw [show ((j + 1 : Nat) : Int) - (charL l).1 = ((j - (charL l).1 + 1 : Nat) : Int) from by omega]
        exact h5
def lineAt (s : List UInt8) (k : Nat) : Int := ((linesL (s.take k)).length : Int) - 1
def fromAt (s : List UInt8) (k : Nat) : Int := (linesL (s.take k)).getLastD 0
def atP (s : List UInt8) (off : Int) : Po × Int :=
  if off < 0 ∨ (s.length : Int) < off then (⟨0, 0⟩, 5)
  else if ¬ off ∈ bords s 0 then (⟨0, 0⟩, 1)
  else (⟨lineAt s off.toNat, unitsL ((s.take off.toNat).drop (fromAt s off.toNat).toNat)⟩, 0)
theorem from_zero (s : List UInt8) : fromAt s 0 = 0 ∧ lineAt s 0 = 0 := ⟨rfl, rfl⟩
theorem from_step {s : List UInt8} {k : Nat} (h : k < s.length) : fromAt s (k + 1) = (if s[k].toNat = 10 then ((k + 1 : Nat) : Int) else fromAt s k) ∧ lineAt s (k + 1) = (if s[k].toNat = 10 then lineAt s k + 1 else lineAt s k) := by
  unfold fromAt lineAt
  rw [lines_step h]
  split
  · constructor
    · simp [List.getLastD_eq_getLast?]
    · rw [List.length_append, List.length_singleton]; omega
  · simp
theorem from_ok {s : List UInt8} : ∀ {k : Nat}, k ≤ s.length → 0 ≤ fromAt s k ∧ fromAt s k ≤ k ∧ fromAt s k ∈ bords s 0 ∧ (∀ j : Nat, fromAt s k ≤ j → j < k → cb s j ≠ 10) ∧ (linesL s)[(lineAt s k).toNat]? = some (fromAt s k) ∧ 0 ≤ lineAt s k ∧ lineAt s k < (linesL s).length
  | 0, _ => by
    rw [(from_zero s).1, (from_zero s).2]
    refine ⟨by omega, by omega, ?_, fun j _ hj => absurd hj (Nat.not_lt_zero j), rfl, by omega, by unfold linesL; simp⟩
    by_cases h : 0 < s.length
    · rw [bords_on h]; exact .head _
    · rw [bords_end h]; exact .head _
  | k + 1, h => by
    obtain ⟨g1, g2, g3, g4, g5, g6, g7⟩ := from_ok (s := s) (k := k) (by omega)
    obtain ⟨e1, e2⟩ := from_step (s := s) (k := k) (by omega)
    have hcb : cb s k = s[k].toNat := by unfold cb; rw [List.getD_eq_getElem?_getD, List.getElem?_eq_getElem (by omega)]; rfl
    have hpre : ∃ r, linesL s = linesL (s.take (k + 1)) ++ r := ⟨linesGo (0 + (s.take (k + 1)).length) (s.drop (k + 1)), by
      unfold linesL
      conv => lhs; rw [← List.take_append_drop (k + 1) s, linesGo_append]
      rw [List.cons_append]⟩
    obtain ⟨r, hr⟩ := hpre
    have hl9 : (linesL s)[(lineAt s (k + 1)).toNat]? = some (fromAt s (k + 1)) ∧ 0 ≤ lineAt s (k + 1) ∧ lineAt s (k + 1) < (linesL s).length := by
      have hne : 0 < (linesL (s.take (k + 1))).length := by unfold linesL; simp
      have hL : lineAt s (k + 1) = (((linesL (s.take (k + 1))).length - 1 : Nat) : Int) := by unfold lineAt; omega
      rw [hL, hr, Int.toNat_natCast, List.getElem?_append_left (by omega)]
      refine ⟨?_, by omega, by rw [List.length_append]; omega⟩
      unfold fromAt
      rw [List.getLastD_eq_getLast?, List.getLast?_eq_getElem?, List.getElem?_eq_getElem (by omega)]; rfl
    by_cases h10 : s[k].toNat = 10
    · rw [if_pos h10] at e1
      refine ⟨by omega, by omega, ?_, fun j hj hjk => by omega, hl9⟩
      rw [e1]
      exact bords_nl _ (Nat.le_refl _) (by omega) (by rw [hcb, h10])
    · rw [if_neg h10] at e1
      refine ⟨by omega, by omega, by rw [e1]; exact g3, fun j hj hjk => ?_, hl9⟩
      rcases Nat.lt_succ_iff_lt_or_eq.1 hjk with hj2 | rfl
      · exact g4 j (by omega) hj2
      · rw [hcb]; exact h10
theorem at_off {s : List UInt8} {off : Int} (h : (atP s off).2 = 0) : offM s (atP s off).1 = (off, 0) ∧ 0 ≤ off ∧ off ≤ s.length := by
  unfold atP at h ⊢
  split
  · rename_i h1; rw [if_pos h1] at h; exact absurd h (by decide)
  · rename_i h1
    rw [if_neg h1] at h
    split
    · rename_i h2; rw [if_pos h2] at h; exact absurd h (by decide)
    · rename_i h2
      have hb := Decidable.not_not.1 h2
      refine ⟨?_, by omega, by omega⟩
      obtain ⟨k, rfl⟩ : ∃ k : Nat, off = k := ⟨off.toNat, by omega⟩
      rw [Int.toNat_natCast]
      obtain ⟨g1, g2, g3, g4, g5, g6, g7⟩ := from_ok (s := s) (k := k) (by omega)
      obtain ⟨f, hf⟩ : ∃ f : Nat, fromAt s k = f := ⟨(fromAt s k).toNat, by omega⟩
      have hu := unitsL_in _ (l := (s.take k).drop f) (Nat.le_refl _)
      unfold offM
      show (if lineAt s k < 0 ∨ ((linesL s).length : Int) ≤ lineAt s k ∨ unitsL ((s.take k).drop (fromAt s k).toNat) < 0 then ((0 : Int), (5 : Int)) else offGo (unitsL ((s.take k).drop (fromAt s k).toNat)) (s.drop ((linesL s).getD (lineAt s k).toNat 0).toNat) ((linesL s).getD (lineAt s k).toNat 0) 0) = _
      rw [hf] at g1 g2 g3 g4 g5 ⊢
      rw [Int.toNat_natCast]
      rw [if_neg (by omega), List.getD_eq_getElem?_getD, g5, Option.getD_some, Int.toNat_natCast]
      have hbf := bords_from _ (Nat.le_refl _) g3 hb (by omega)
      have h9 := off_units _ (l := s.drop f) (k := k - f) (i := (f : Int)) (n := 0) (Nat.le_refl _) hbf (fun j hj => by
        have := g4 (f + j) (by omega) (by omega)
        unfold cb at this ⊢
        rw [List.getD_eq_getElem?_getD] at this ⊢
        rw [List.getElem?_drop]; exact this)
      rw [Int.zero_add, ← List.drop_take] at h9
      rw [h9]
      congr 1; omega
def posOf (s : List UInt8) (e : Ed) : PE := ⟨(atP s e.f).1, (atP s e.t).1, e.x⟩
def posE (s : List UInt8) : List Ed → List PE → List PE × Bool
  | [], acc => (acc, true)
  | e :: es, acc => if (atP s e.f).2 ≠ 0 ∨ (atP s e.t).2 ≠ 0 then ([], false) else posE s es (acc ++ [posOf s e])
theorem posE_back {s : List UInt8} : ∀ {es : List Ed} {acc : List PE} {done : List Ed}, (∀ e, e ∈ es → e.f ≤ e.t) → (posE s es acc).2 = true → ∃ ps, (posE s es acc).1 = acc ++ ps ∧ ps.length = es.length ∧ txsP ps = txs es ∧ posGo s ps done = (done ++ es, 0)
  | [], acc, done, _, h => ⟨[], by simp [posE], rfl, rfl, by simp [posGo]⟩
  | e :: es, acc, done, hle, h => by
    rw [posE] at h ⊢
    by_cases h1 : (atP s e.f).2 ≠ 0 ∨ (atP s e.t).2 ≠ 0
    · rw [if_pos h1] at h; cases h
    · rw [if_neg h1] at h ⊢
      have hf := at_off (s := s) (off := e.f) (by omega)
      have ht := at_off (s := s) (off := e.t) (by omega)
      obtain ⟨ps, k1, k2, k3, k4⟩ := posE_back (done := done ++ [e]) (fun x hx => hle x (.tail _ hx)) h
      refine ⟨posOf s e :: ps, by rw [k1]; simp, by simp [k2], by simp [txsP, txs, posOf] at k3 ⊢; omega, ?_⟩
      rw [posGo_cons]
      have e1 : offM s (posOf s e).s = (e.f, 0) := hf.1
      have e2 : offM s (posOf s e).e = (e.t, 0) := ht.1
      have e3 : (posOf s e).x = e.x := rfl
      rw [e1, e2, e3, if_neg (by simp [firstNZ]), if_neg (by have := hle e (.head _); show ¬ e.t < e.f; omega)]
      have k5 : posGo s ps (done ++ [⟨e.f, e.t, e.x⟩]) = (done ++ [e] ++ es, 0) := k4
      rw [k5]; simp
theorem getU {l : List UInt8} {k : Nat} {n : Int} (hn : n = k) (h : k < l.length) : l[n.toNat]? = some (l.getD k 0) := by
  subst hn
  rw [Int.toNat_natCast, List.getD_eq_getElem?_getD, List.getElem?_eq_getElem h]; rfl
theorem cb_drop (l : List UInt8) (i k : Nat) : cb (l.drop i) k = cb l (i + k) := by
  unfold cb; rw [List.getD_eq_getElem?_getD, List.getD_eq_getElem?_getD, List.getElem?_drop]
theorem btw_drop (l : List UInt8) (i k lo hi : Nat) : btw (l.drop i) k lo hi ↔ btw l (i + k) lo hi := by
  unfold btw; rw [cb_drop, List.length_drop]; omega
abbrev chA (l : List UInt8) (i : Nat) : Prop := 194 ≤ cb l i ∧ cb l i ≤ 223 ∧ btw l (i + 1) 128 191
abbrev chB (l : List UInt8) (i : Nat) : Prop := 224 ≤ cb l i ∧ cb l i ≤ 239 ∧ btw l (i + 1) (secB (cb l i)).1 (secB (cb l i)).2 ∧ btw l (i + 2) 128 191
abbrev chC (l : List UInt8) (i : Nat) : Prop := 240 ≤ cb l i ∧ cb l i ≤ 244 ∧ btw l (i + 1) (secB (cb l i)).1 (secB (cb l i)).2 ∧ btw l (i + 2) 128 191 ∧ btw l (i + 3) 128 191
theorem charL_drop (l : List UInt8) (i : Nat) : charL (l.drop i) = if chA l i then (2, 1) else if chB l i then (3, 1) else if chC l i then (4, 2) else (1, 1) := by
  unfold charL
  simp only [btw_drop, cb_drop, Nat.add_zero]
structure BdX where
  i : Nat
  l : List Int
  oa : Option Addr
  c : Nat
theorem ints_append2 (a : List Int) (x : Int) : ints (a ++ [x]) = ints a ++ [I x] := by unfold ints; simp
theorem unitsL_drop {l : List UInt8} {i : Nat} (h : i < l.length) : unitsL (l.drop i) = (charL (l.drop i)).2 + unitsL (l.drop (i + (charL (l.drop i)).1)) := by
  rw [unitsL_on (by rw [List.length_drop]; omega), List.drop_drop]
theorem bords_drop {l : List UInt8} {i : Nat} (h : i < l.length) : bords (l.drop i) i = (i : Int) :: bords (l.drop (i + (charL (l.drop i)).1)) ((i + (charL (l.drop i)).1 : Nat) : Int) := by
  rw [bords_on (by rw [List.length_drop]; omega), List.drop_drop, Int.natCast_add]
theorem charL_drop_le {l : List UInt8} {i : Nat} (h : i < l.length) : i + (charL (l.drop i)).1 ≤ l.length := by
  have := charL_le (l := l.drop i) (by rw [List.length_drop]; omega)
  rw [List.length_drop] at this; omega
end Go.GL

namespace Go.GL
set_option linter.unusedVariables false
structure PsX where
  k : Nat
  l : List PE
  oa : Option Addr
  c : Nat
structure ChX where
  rows : List HeR
  h : Hs
  oa : Option Addr
  c : Nat
structure ChZ where
  t : List UInt8
  rows : List HeR
  oa : Option Addr
  c : Nat
structure RwX where
  k : Nat
  l : List HeR
  oa : Option Addr
  c : Nat
abbrev HeR.cs (r : HeR) : List Value := [I r.k, .slice r.oa r.l.length r.c]
def heC : List HeR → List Value
  | [] => []
  | r :: l => r.cs ++ heC l
theorem heC_length : ∀ l : List HeR, (heC l).length = l.length * 2
  | [] => rfl
  | e :: es => by rw [heC, List.length_append, heC_length es]; simp; omega
theorem heC_append : ∀ a b : List HeR, heC (a ++ b) = heC a ++ heC b
  | [], b => rfl
  | e :: es, b => by rw [List.cons_append, heC, heC, heC_append es b, List.append_assoc]
theorem heC_one : ∀ l : List HeR, (heC l).all Value.oneCell' = true
  | [] => rfl
  | e :: es => by rw [heC, List.all_append, heC_one es]; rfl
theorem heC_at : ∀ {l : List HeR} {k j : Nat} {v : Value} (h : k < l.length), (l[k].cs)[j]? = some v → (heC l)[k * 2 + j]? = some v
  | e :: es, 0, j, v, h, hv => by
    rw [heC, Nat.zero_mul, Nat.zero_add, List.getElem?_append_left (by have := (List.getElem?_eq_some_iff.1 hv).1; simpa using this)]
    exact hv
  | e :: es, k + 1, j, v, h, hv => by
    rw [heC, List.getElem?_append_right (by simp; omega)]
    have := heC_at (l := es) (k := k) (j := j) (v := v) (by simpa using h) hv
    rw [← this]
    congr 1
    simp; omega
theorem heC_drop : ∀ (l : List HeR) (k : Nat), (heC l).drop (k * 2) = heC (l.drop k)
  | l, 0 => by simp
  | [], k + 1 => by simp [heC]
  | r :: l, k + 1 => by
    rw [List.drop_succ_cons, ← heC_drop l k, heC, show (k + 1) * 2 = 2 + k * 2 from by omega, ← List.drop_drop]; rfl
theorem heC_take : ∀ (l : List HeR) (k : Nat), (heC l).take (k * 2) = heC (l.take k)
  | l, 0 => by simp [heC]
  | [], k + 1 => by simp [heC]
  | r :: l, k + 1 => by
    rw [List.take_succ_cons, heC, heC, ← heC_take l k, show (k + 1) * 2 = k * 2 + 1 + 1 from by omega]; rfl
theorem heC_ne {l : List HeR} (h : 0 < l.length) : heC l ≠ [] := fun e => by
  have := congrArg List.length e
  rw [heC_length] at this
  simp at this
  omega
theorem heC_set {l : List HeR} {k : Nat} (h : k < l.length) (r : HeR) : heC (l.set k r) = (heC l).take (k * 2) ++ r.cs ++ (heC l).drop (k * 2 + 2) := by
  rw [List.set_eq_take_append_cons_drop, if_pos h, heC_append, heC, heC_take, show k * 2 + 2 = (k + 1) * 2 from by omega, heC_drop, List.append_assoc]
theorem heC_at1 {l : List HeR} {k j : Nat} {v : Value} (h : k < l.length) (hv : (l[k].cs)[j]? = some v) : (heC l)[0 + ((k : Nat) : Int).toNat * 2 + j]? = some v := by
  rw [Nat.zero_add, Int.toNat_natCast]; exact heC_at h hv
def HeF (l : List HeR) : Fact := ⟨fun w K => ∀ h, h ∈ l → ArrAt w K h.oa (peC h.l), fun h e => fun x hx => (h x hx).mono e⟩
theorem HeF.sub {l l' : List HeR} {w : World} {K : List Nat} (h : (HeF l).p w K) (hs : ∀ r, r ∈ l' → r ∈ l) : (HeF l').p w K := fun r hr => h r (hs r hr)
theorem HeF.snoc {l : List HeR} {r : HeR} {w : World} {K : List Nat} (h : (HeF l).p w K) (hr : ArrAt w K r.oa (peC r.l)) : (HeF (l ++ [r])).p w K := mem_snoc_all h hr
theorem Rd.cut {M : List HP} {F : List Fact} {oa : Option Addr} {cap size n : Nat} {xs : List Value} (r : Rd M F oa xs) (k h : Nat) (hk : k ≤ h) (hh : h ≤ n) (hc : n ≤ cap) (hx : xs.length = n * size) : Rd M F (cutA oa k cap size) ((xs.take (h * size)).drop (k * size)) := fun w hw => ArrAt.cutGen k h hk hh hc hx (r w hw)
theorem run_he {P : Program} {w : World} {K : List Nat} {b off T k : Nat} {es : List HeR} (h : CellsAt w K b off (heC es)) (ht : tyAgg P T 2 = true) (hk : k < es.length) : Reads P w T ⟨b, off + (k : Int).toNat * 2, none⟩ (.agg (es[k].cs).toArray) := by
  refine run_loadVar_agg (vs := es[k].cs) ht rfl fun j v hv => ?_
  rw [addr_add, Int.toNat_natCast, Nat.add_assoc]
  exact h.2.2 _ v (heC_at hk hv)
theorem heC_setT (l : List HeR) (k : Nat) (h : k < l.length) (r : HeR) : (heC l).take (0 + ((k : Nat) : Int).toNat * 2) ++ r.cs ++ (heC l).drop (0 + ((k : Nat) : Int).toNat * 2 + r.cs.length) = heC (l.set k r) := by
  rw [heC_set h, Nat.zero_add, Int.toNat_natCast]; rfl
theorem Rd.heTake {M : List HP} {F : List Fact} {oa : Option Addr} {cap : Nat} {l : List HeR} (r : Rd M F oa (heC l)) (k : Nat) (hk : k ≤ l.length) (hc : l.length ≤ cap) : Rd M F (cutA oa 0 cap 2) (heC (l.take k)) := by
  have h := r.cut (cap := cap) (size := 2) (n := l.length) 0 k (Nat.zero_le _) hk hc (heC_length l)
  rw [Nat.zero_mul, List.drop_zero, heC_take] at h
  exact h
theorem Rd.heDrop {M : List HP} {F : List Fact} {oa : Option Addr} {cap : Nat} {l : List HeR} (r : Rd M F oa (heC l)) (k : Nat) (hk : k ≤ l.length) (hc : l.length ≤ cap) : Rd M F (cutA oa k cap 2) (heC (l.drop k)) := by
  have h := r.cut (cap := cap) (size := 2) (n := l.length) k l.length hk (Nat.le_refl _) hc (heC_length l)
  rw [List.take_of_length_le (by rw [heC_length]; exact Nat.le_refl _), heC_drop] at h
  exact h
abbrev Cg := Int × List PE
def ChOk : Hs → List Cg → Prop
  | _, [] => True
  | h, c :: cs => (c.1 = h.v + 1 ∧ c.2.length ≤ 64 ∧ txsP c.2 ≤ 100000 ∧ (appH h c.2).1 = 0) ∧ ChOk (appH h c.2).2 cs
def endH (h : Hs) (cs : List Cg) : Hs := cs.foldl (fun h c => (appH h c.2).2) h
theorem endH_snoc (h : Hs) (cs : List Cg) (c : Cg) : endH h (cs ++ [c]) = (appH (endH h cs) c.2).2 := by unfold endH; rw [List.foldl_append]; rfl
theorem ChOk.snoc : ∀ {cs : List Cg} {h : Hs} {c : Cg}, ChOk h cs → (c.1 = (endH h cs).v + 1 ∧ c.2.length ≤ 64 ∧ txsP c.2 ≤ 100000 ∧ (appH (endH h cs) c.2).1 = 0) → ChOk h (cs ++ [c])
  | [], h, c, _, hc => ⟨hc, trivial⟩
  | d :: cs, h, c, ⟨h1, h2⟩, hc => ⟨h1, ChOk.snoc (cs := cs) h2 hc⟩
abbrev HeR.p (r : HeR) : Cg := (r.k, r.l)
theorem tx_of (h : Hs) (t : List UInt8) (es : List Ed) : ({ h with hist := h.hist ++ [(t, es)] } : Hs).tx = t ∧ ({ h with hist := h.hist ++ [(t, es)] } : Hs).v = h.v + 1 := by
  constructor
  · show (match (h.hist ++ [_]).getLast? with | some p => p.1 | none => []) = _
    rw [List.getLast?_append]; rfl
  · show h.first + ((h.hist ++ [_]).length : Int) - 1 = h.first + h.hist.length - 1 + 1
    rw [List.length_append, List.length_singleton]; omega
theorem app_pos {h : Hs} {es : List Ed} (hs : soundE h.tx.length es = 0) (hp : (posE h.tx es []).2 = true) (hl : ¬ 4096 < (applyGo h.tx 0 es).length) :
    (posE h.tx es []).1.length = es.length ∧ txsP (posE h.tx es []).1 = txs es ∧ posM h.tx (posE h.tx es []).1 = (es, 0) ∧ appH h (posE h.tx es []).1 = (0, { h with hist := h.hist ++ [(applyGo h.tx 0 es, es)] }) := by
  have hle : ∀ (es : List Ed) (q : Int), sound1 h.tx.length q es = 0 → ∀ e, e ∈ es → e.f ≤ e.t := by
    intro es
    induction es with
    | nil => intro q _ e he; cases he
    | cons x xs ih =>
      intro q hs e he
      obtain ⟨h1, h2, h3, h4, h5⟩ := sound1_cons hs
      rcases List.mem_cons.1 he with rfl | he
      · exact h2
      · exact ih _ h5 e he
  obtain ⟨ps, k1, k2, k3, k4⟩ := posE_back (s := h.tx) (es := es) (acc := []) (done := []) (hle es 0 (soundE_sound1 hs)) hp
  rw [List.nil_append] at k1 k4
  have h64 : es.length ≤ 64 := by
    unfold soundE at hs
    split at hs
    · exact absurd hs (by decide)
    · omega
  have hM : posM h.tx ps = (es, 0) := by unfold posM; rw [if_neg (by omega), k4]
  rw [k1]
  refine ⟨k2, k3, hM, ?_⟩
  unfold appH
  rw [hM, if_neg (by simp)]
  unfold becH
  rw [if_neg (by simpa using hs), if_neg hl]
theorem sound1_in {size : Int} (h2 : size ≤ 9223372036854775807) : ∀ {es : List Ed} {q : Int} {e : Ed}, sound1 size q es = 0 → e ∈ es → I64 e.f ∧ I64 e.t
  | x :: xs, q, e, h, he => by
    obtain ⟨g1, g2, g3, g4, g5⟩ := sound1_cons h
    rcases List.mem_cons.1 he with rfl | he
    · exact ⟨⟨by omega, by omega⟩, ⟨by omega, by omega⟩⟩
    · exact sound1_in h2 g5 he
theorem mem_swap {α : Type} {l : List α} {i k : Nat} (hi : i < l.length) (hk : k < l.length) (r : α) : r ∈ (l.set i l[k]).set k l[i] ↔ r ∈ l := by
  constructor
  · intro h
    rcases List.mem_or_eq_of_mem_set h with h | h
    · rcases List.mem_or_eq_of_mem_set h with h | h
      · exact h
      · exact h ▸ List.getElem_mem _
    · exact h ▸ List.getElem_mem _
  · intro h
    obtain ⟨j, hj, rfl⟩ := List.getElem_of_mem h
    by_cases e1 : j = i
    · subst e1
      exact List.mem_iff_getElem?.2 ⟨k, by rw [List.getElem?_set, if_pos rfl, if_pos (by rw [List.length_set]; exact hk)]⟩
    · by_cases e2 : j = k
      · subst e2
        exact List.mem_iff_getElem?.2 ⟨i, by rw [List.getElem?_set, if_neg (fun e => e1 e), List.getElem?_set, if_pos rfl, if_pos hi]⟩
      · exact List.mem_iff_getElem?.2 ⟨j, by rw [List.getElem?_set, if_neg (fun e => e2 e.symm), List.getElem?_set, if_neg (fun e => e1 e.symm), List.getElem?_eq_getElem hj]⟩
theorem mid_len {α : Type} {l : List α} {k : Nat} {x : α} (hk : k ≤ l.length) : (l.take k ++ [x] ++ l.drop k).length = l.length + 1 := by simp; omega
theorem mem_mid {α : Type} {l : List α} {k : Nat} {x r : α} : r ∈ l.take k ++ [x] ++ l.drop k ↔ r ∈ l ∨ r = x := by
  conv => rhs; rw [← List.take_append_drop k l]
  simp only [List.mem_append, List.mem_singleton]
  constructor
  · rintro ((h | h) | h)
    · exact .inl (.inl h)
    · exact .inr h
    · exact .inl (.inr h)
  · rintro ((h | h) | h)
    · exact .inl (.inl h)
    · exact .inr h
    · exact .inl (.inr h)
end Go.GL

namespace Go.GL
set_option linter.unusedVariables false
def findGo (u : Int) (l : List UInt8) (i n : Int) : Int × Int :=
  if n = u then (i, 0) else if h : 0 < l.length then findGo u (l.drop (charL l).1) (i + (charL l).1) (n + (charL l).2) else (0, 1)
termination_by l.length
decreasing_by
  have := (charL_pos l).1
  rw [List.length_drop]; omega
theorem findGo_hit {u : Int} {l : List UInt8} {i n : Int} (h : n = u) : findGo u l i n = (i, 0) := by
  unfold findGo; rw [if_pos h]
theorem findGo_on {u : Int} {l : List UInt8} {i n : Int} (h : n ≠ u) (hl : 0 < l.length) : findGo u l i n = findGo u (l.drop (charL l).1) (i + (charL l).1) (n + (charL l).2) := by
  conv => lhs; unfold findGo
  rw [if_neg h, dif_pos hl]
theorem findGo_end {u : Int} {l : List UInt8} {i n : Int} (h : n ≠ u) (hl : ¬ 0 < l.length) : findGo u l i n = (0, 1) := by
  unfold findGo; rw [if_neg h, dif_neg hl]
theorem findGo_far {u : Int} : ∀ (m : Nat) {l : List UInt8} {i n : Int}, l.length ≤ m → u < n → findGo u l i n = (0, 1)
  | m, l, i, n, hm, h => by
    by_cases hl : 0 < l.length
    · rw [findGo_on (by omega) hl]
      have h1 := charL_pos l
      cases m with
      | zero => omega
      | succ m => exact findGo_far m (by rw [List.length_drop]; omega) (by omega)
    · exact findGo_end (by omega) hl
theorem nl_single {l : List UInt8} {j : Nat} (hj : j < (charL l).1) (h10 : cb l j = 10) : j = 0 := by
  have sec : ∀ c, 128 ≤ (secB c).1 := fun c => by unfold secB; repeat' split
                                                  all_goals decide
  unfold charL at hj
  split at hj
  · rename_i g
    have hj : j < 2 := hj
    have g3 := g.2.2.2
    rcases (show j = 0 ∨ j = 1 by omega) with rfl | rfl <;> omega
  · split at hj
    · rename_i g
      have hj : j < 3 := hj
      have g3 := g.2.2.1.2
      have g4 := g.2.2.2.2
      have := sec (cb l 0)
      rcases (show j = 0 ∨ j = 1 ∨ j = 2 by omega) with rfl | rfl | rfl <;> omega
    · split at hj
      · rename_i g
        have hj : j < 4 := hj
        have g3 := g.2.2.1.2
        have g4 := g.2.2.2.1.2
        have g5 := g.2.2.2.2.2
        have := sec (cb l 0)
        rcases (show j = 0 ∨ j = 1 ∨ j = 2 ∨ j = 3 by omega) with rfl | rfl | rfl | rfl <;> omega
      · have hj : j < 1 := hj
        omega
theorem off_find {u : Int} : ∀ (w : Nat) {l : List UInt8} {m : Nat} {i n : Int}, l.length ≤ w → m ≤ l.length → (∀ j, j < m → cb l j ≠ 10) → (m = l.length ∨ cb l m = 10) →
    offGo u l i n = if n + unitsL (l.take m) < u then (0, 5) else findGo u (l.take m) i n
  | w, l, m, i, n, hw, hm, hno, hend => by
    have hU := unitsL_in _ (l := l.take m) (Nat.le_refl _)
    rcases Int.lt_trichotomy n u with h | h | h
    · by_cases h0 : m = 0
      · subst h0
        have e0 : unitsL (l.take 0) = 0 := unitsL_end (by simp)
        rw [if_pos (by rw [e0]; omega)]
        by_cases hl : 0 < l.length
        · exact offGo_nl h hl (by rcases hend with h9 | h9; omega; exact h9)
        · exact offGo_end h hl
      · have hl : 0 < l.length := by omega
        have h1 := charL_pos l
        have h2 := charL_le hl
        have hk : (charL l).1 ≤ m := by
          rcases hend with h9 | h9
          · omega
          · refine Nat.le_of_not_lt fun h8 => ?_
            have := nl_single h8 h9
            omega
        have hc := charL_take (l := l) (m := m) (by omega) hk
        have hlt : 0 < (l.take m).length := by rw [List.length_take]; omega
        have e1 : unitsL (l.take m) = (charL l).2 + unitsL ((l.drop (charL l).1).take (m - (charL l).1)) := by
          rw [unitsL_on hlt, hc, List.drop_take]
        have e2 : findGo u (l.take m) i n = findGo u ((l.drop (charL l).1).take (m - (charL l).1)) (i + (charL l).1) (n + (charL l).2) := by
          rw [findGo_on (by omega) hlt, hc, List.drop_take]
        have cbd : ∀ j, cb (l.drop (charL l).1) j = cb l ((charL l).1 + j) := fun j => by
          unfold cb; rw [List.getD_eq_getElem?_getD, List.getElem?_drop, List.getD_eq_getElem?_getD]
        cases w with
        | zero => omega
        | succ w =>
          rw [offGo_on h hl (hno 0 (by omega)), off_find w (l := l.drop (charL l).1) (m := m - (charL l).1) (by rw [List.length_drop]; omega) (by rw [List.length_drop]; omega) (fun j hj => by rw [cbd]; exact hno _ (by omega)) (by
            rw [cbd, List.length_drop, show (charL l).1 + (m - (charL l).1) = m from by omega]
            rcases hend with h9 | h9
            · exact .inl (by omega)
            · exact .inr h9), e1, e2]
          congr 1
          rw [Int.add_assoc]
    · rw [offGo_hit h, if_neg (by omega), findGo_hit h]
    · rw [offGo_far h, if_neg (by omega), findGo_far _ (Nat.le_refl _) h]
theorem find_bords {u : Int} : ∀ (w : Nat) {l : List UInt8} {i n : Int}, l.length ≤ w → findGo u l i n = match (bords l 0).find? (fun b => decide (n + unitsL (l.take b.toNat) = u)) with | some b => (i + b, 0) | none => (0, 1)
  | w, l, i, n, hw => by
    by_cases h : n = u
    · have e0 : bords l 0 = 0 :: (bords l 0).tail := by
        by_cases hl : 0 < l.length
        · rw [bords_on hl]; rfl
        · rw [bords_end hl]; rfl
      rw [findGo_hit h, e0, List.find?_cons, show decide (n + unitsL (l.take (0 : Int).toNat) = u) = true from decide_eq_true (by rw [show unitsL (l.take (0 : Int).toNat) = 0 from unitsL_end (by simp)]; omega)]
      show _ = (i + 0, (0 : Int))
      rw [Int.add_zero]
    · have h0 : decide (n + unitsL (l.take (0 : Int).toNat) = u) = false := decide_eq_false (by rw [show unitsL (l.take (0 : Int).toNat) = 0 from unitsL_end (by simp)]; omega)
      by_cases hl : 0 < l.length
      · have h1 := charL_pos l
        have h2 := charL_le hl
        have sh : ∀ (v : Nat) {l : List UInt8} {a d : Int}, l.length ≤ v → bords l (a + d) = (bords l a).map (fun b => b + d) := by
          intro v
          induction v with
          | zero => intro l a d hv; rw [bords_end (by omega), bords_end (by omega)]; rfl
          | succ v ih =>
            intro l a d hv
            by_cases hl : 0 < l.length
            · have h1 := charL_pos l
              rw [bords_on hl, bords_on hl, List.map_cons, ← ih (by rw [List.length_drop]; omega)]
              congr 2; omega
            · rw [bords_end hl, bords_end hl]; rfl
        cases w with
        | zero => omega
        | succ w =>
          rw [findGo_on h hl, find_bords w (by rw [List.length_drop]; omega), bords_on hl, List.find?_cons, h0, sh _ (Nat.le_refl _), List.find?_map]
          have ef : ∀ b ∈ bords (l.drop (charL l).1) 0, ((fun b : Int => decide (n + unitsL (l.take b.toNat) = u)) ∘ fun b => b + ((charL l).1 : Int)) b = decide (n + (charL l).2 + unitsL ((l.drop (charL l).1).take b.toNat) = u) := fun b hb => by
            have hbi := bords_in _ (Nat.le_refl _) hb
            have e1 : unitsL (l.take (b + ((charL l).1 : Int)).toNat) = (charL l).2 + unitsL ((l.drop (charL l).1).take b.toNat) := by
              rw [unitsL_on (by rw [List.length_take]; omega), charL_take (by omega) (by omega), List.drop_take]
              congr 3; omega
            show decide (n + unitsL (l.take (b + ((charL l).1 : Int)).toNat) = u) = _
            rw [e1, Int.add_assoc]
          have eg : ∀ (L : List Int) (p q : Int → Bool), (∀ b ∈ L, p b = q b) → L.find? p = L.find? q := by
            intro L p q hL
            induction L with
            | nil => rfl
            | cons a L ih => rw [List.find?_cons, List.find?_cons, hL a (.head _), ih fun b hb => hL b (.tail _ hb)]
          rw [eg _ _ _ ef]
          cases (bords (l.drop (charL l).1) 0).find? fun b => decide (n + (charL l).2 + unitsL ((l.drop (charL l).1).take b.toNat) = u) with
          | none => rfl
          | some b =>
            show (i + (charL l).1 + b, (0 : Int)) = (i + (b + (charL l).1), 0)
            congr 1; omega
      · rw [findGo_end h hl, bords_end hl, List.find?_cons, h0]; rfl
def LnOk (s : List UInt8) : Int → List Int → Prop
  | a, [] => 0 ≤ a ∧ a ≤ s.length ∧ ∀ k : Nat, a ≤ k → k < s.length → cb s k ≠ 10
  | a, b :: r => 0 ≤ a ∧ a ≤ b - 1 ∧ b ≤ s.length ∧ cb s (b - 1).toNat = 10 ∧ (∀ k : Nat, a ≤ k → (k : Int) < b - 1 → cb s k ≠ 10) ∧ LnOk s b r
theorem lines_ok {s : List UInt8} : ∀ {t : List UInt8} {i : Nat} {a : Int}, s.drop i = t → i ≤ s.length → 0 ≤ a → a ≤ i → (∀ k : Nat, a ≤ k → k < i → cb s k ≠ 10) → LnOk s a (linesGo i t)
  | [], i, a, ht, hi, h0, h1, h2 => by
    have : s.length ≤ i := by have := congrArg List.length ht; rw [List.length_drop] at this; simp at this; omega
    exact ⟨h0, by omega, fun k h3 h4 => h2 k h3 (by omega)⟩
  | c :: t, i, a, ht, hi, h0, h1, h2 => by
    have hlt : i < s.length := by have := congrArg List.length ht; rw [List.length_drop, List.length_cons] at this; omega
    have ht2 : s.drop (i + 1) = t := by rw [← List.drop_drop, ht]; rfl
    have hc : cb s i = c.toNat := by
      have : (s.drop i)[0]? = some c := by rw [ht]; rfl
      rw [List.getElem?_drop, Nat.add_zero] at this
      unfold cb; rw [List.getD_eq_getElem?_getD, this]; rfl
    rw [linesGo]
    split
    · rename_i h10
      refine ⟨h0, by omega, by omega, by rw [show (((i + 1 : Nat) : Int) - 1).toNat = i from by omega, hc, h10], fun k h3 h4 => h2 k h3 (by omega), lines_ok ht2 hlt (by omega) (by omega) fun k h3 h4 => by omega⟩
    · rename_i h10
      refine lines_ok ht2 hlt h0 (by omega) fun k h3 h4 => ?_
      rcases Nat.lt_succ_iff_lt_or_eq.1 h4 with h5 | rfl
      · exact h2 k h3 h5
      · rw [hc]; exact h10
def lineEnd (s : List UInt8) (L : Nat) : Int := if L + 1 < (linesL s).length then (linesL s).getD (L + 1) 0 - 1 else s.length
theorem ln_at {s : List UInt8} : ∀ {r : List Int} {a : Int} {j : Nat}, LnOk s a r → j < (a :: r).length →
    0 ≤ (a :: r).getD j 0 ∧ (a :: r).getD j 0 ≤ (if j + 1 < (a :: r).length then (a :: r).getD (j + 1) 0 - 1 else s.length) ∧ (if j + 1 < (a :: r).length then (a :: r).getD (j + 1) 0 - 1 else (s.length : Int)) ≤ s.length ∧
    (∀ k : Nat, (a :: r).getD j 0 ≤ k → (k : Int) < (if j + 1 < (a :: r).length then (a :: r).getD (j + 1) 0 - 1 else (s.length : Int)) → cb s k ≠ 10) ∧ ((if j + 1 < (a :: r).length then (a :: r).getD (j + 1) 0 - 1 else (s.length : Int)) = s.length ∨ cb s (if j + 1 < (a :: r).length then (a :: r).getD (j + 1) 0 - 1 else (s.length : Int)).toNat = 10)
  | [], a, 0, h, _ => by
    obtain ⟨h1, h2, h3⟩ := h
    rw [if_neg (by simp)]
    exact ⟨h1, h2, Int.le_refl _, fun k h4 h5 => h3 k h4 (by omega), .inl rfl⟩
  | [], a, j + 1, h, hj => by simp at hj
  | b :: r, a, 0, h, _ => by
    obtain ⟨h1, h2, h3, h4, h5, h6⟩ := h
    rw [if_pos (by simp)]
    exact ⟨h1, h2, by show b - 1 ≤ _; omega, h5, .inr h4⟩
  | b :: r, a, j + 1, h, hj => by
    have := ln_at (j := j) h.2.2.2.2.2 (by simpa using hj)
    simpa using this
theorem line_at {s : List UInt8} {j : Nat} (hj : j < (linesL s).length) : 0 ≤ (linesL s).getD j 0 ∧ (linesL s).getD j 0 ≤ lineEnd s j ∧ lineEnd s j ≤ s.length ∧ (∀ k : Nat, (linesL s).getD j 0 ≤ k → (k : Int) < lineEnd s j → cb s k ≠ 10) ∧ (lineEnd s j = s.length ∨ cb s (lineEnd s j).toNat = 10) :=
  ln_at (lines_ok (i := 0) (a := 0) rfl (Nat.zero_le _) (Int.le_refl _) (by omega) (fun k _ h => absurd h (Nat.not_lt_zero _))) hj
def refOff (s : List UInt8) (p : Po) : Int × Int :=
  if p.l < 0 ∨ p.u < 0 ∨ ((linesL s).length : Int) ≤ p.l then (0, 5)
  else if unitsL (cutI s ((linesL s).getD p.l.toNat 0) (lineEnd s p.l.toNat)) < p.u then (0, 5)
  else match (bords (cutI s ((linesL s).getD p.l.toNat 0) (lineEnd s p.l.toNat)) 0).find? (fun b => decide (unitsL ((cutI s ((linesL s).getD p.l.toNat 0) (lineEnd s p.l.toNat)).take b.toNat) = p.u)) with
    | some b => ((linesL s).getD p.l.toNat 0 + b, 0)
    | none => (0, 1)
theorem off_ref (s : List UInt8) (p : Po) : offM s p = refOff s p := by
  unfold offM refOff
  by_cases h : p.l < 0 ∨ ((linesL s).length : Int) ≤ p.l ∨ p.u < 0
  · rw [if_pos h, if_pos (by omega)]
  · rw [if_neg h, if_neg (by omega)]
    obtain ⟨h1, h2, h3, h4, h5⟩ := line_at (s := s) (j := p.l.toNat) (by omega)
    generalize (linesL s).getD p.l.toNat 0 = a at *
    generalize lineEnd s p.l.toNat = e at *
    obtain ⟨a, rfl⟩ : ∃ n : Nat, a = n := ⟨a.toNat, by omega⟩
    obtain ⟨e, rfl⟩ : ∃ n : Nat, e = n := ⟨e.toNat, by omega⟩
    have hc : cutI s (a : Int) (e : Int) = (s.drop a).take (e - a) := by unfold cutI; rw [Int.toNat_natCast, Int.toNat_natCast, List.drop_take]
    have cbd : ∀ j, cb (s.drop a) j = cb s (a + j) := fun j => by
      unfold cb; rw [List.getD_eq_getElem?_getD, List.getElem?_drop, List.getD_eq_getElem?_getD]
    rw [hc, Int.toNat_natCast, off_find _ (m := e - a) (Nat.le_refl _) (by rw [List.length_drop]; omega) (fun j hj => by rw [cbd]; exact h4 _ (by omega) (by omega)) (by
      rw [cbd, List.length_drop, show a + (e - a) = e from by omega]
      rcases h5 with h9 | h9
      · exact .inl (by omega)
      · exact .inr (by rwa [Int.toNat_natCast] at h9)), find_bords _ (Nat.le_refl _)]
    simp only [Int.zero_add]
theorem find_at {L : List Int} {p : Int → Bool} {k : Nat} (hk : k < L.length) (h0 : ∀ j (h : j < k), p (L[j]'(by omega)) = false) (h1 : p L[k] = true) : L.find? p = some L[k] := by
  rw [List.find?_eq_some_iff_getElem]
  exact ⟨h1, k, hk, rfl, fun j hj => by rw [h0 j hj]; rfl⟩
theorem find_no {L : List Int} {p : Int → Bool} (h0 : ∀ j (h : j < L.length), p L[j] = false) : L.find? p = none := by
  rw [List.find?_eq_none]
  intro x hx
  obtain ⟨j, hj, rfl⟩ := List.getElem_of_mem hx
  rw [h0 j hj]; decide
theorem getD_is {L : List Int} {k : Nat} (hk : k < L.length) : L.getD k 0 = L[k] := by rw [List.getD_eq_getElem?_getD, List.getElem?_eq_getElem hk]; rfl
theorem ints_getD {L : List Int} {k : Nat} (hk : k < L.length) : (ints L)[k]? = some (I (L.getD k 0)) := by rw [getD_is hk]; exact ints_get hk
theorem bords_ne (l : List UInt8) (i : Int) : 0 < (bords l i).length := by
  by_cases hl : 0 < l.length
  · rw [bords_on hl, List.length_cons]; omega
  · rw [bords_end hl]; simp
theorem seg_take {s : List UInt8} {a e : Nat} {b : Int} (h0 : 0 ≤ b) (h1 : b ≤ (cutI s a e).length) : (s.take ((a : Int) + b).toNat).drop ((a : Int)).toNat = (cutI s a e).take b.toNat := by
  unfold cutI at h1 ⊢
  rw [List.length_drop, List.length_take] at h1
  rw [Int.toNat_natCast, Int.toNat_natCast] at *
  rw [List.drop_take, List.drop_take, List.take_take]
  congr 1; omega
theorem run_pos {P : Program} {w : World} {K : List Nat} {b off T k f : Nat} {es : List PE} {q : Po} (h : CellsAt w K b off (peC es)) (ht : tyAgg P T 2 = true) (hk : k < es.length) (h0 : (es[k].c)[f]? = some (I q.l)) (h1 : (es[k].c)[f + 1]? = some (I q.u)) : Reads P w T ⟨b, off + (k : Int).toNat * 5 + f, none⟩ (.agg (q.c).toArray) := by
  refine run_loadVar_agg ht rfl fun j v hv => ?_
  rw [addr_add, show off + (k : Int).toNat * 5 + f + j = off + (k * 5 + (f + j)) from by rw [Int.toNat_natCast]; omega]
  refine h.2.2 _ v (peC_at hk ?_)
  match j, hv with
  | 0, hv => simp at hv; subst hv; exact h0
  | 1, hv => simp at hv; subst hv; exact h1
  | j + 2, hv => simp at hv
end Go.GL

namespace Go.GL
open Go.ChangeShapes Go.WideShapes Go.ChangeAt Go.RowKit
set_option linter.unusedVariables false
end Go.GL

namespace Go.GL
open Go.ChangeShapes Go.WideShapes Go.ChangeAt Go.RowKit
set_option linter.unusedVariables false
def inPosOk (P : Program) (tn : Nat) : Bool := match P.underlying tn with
  | some (.struct ⟨[f0, f1]⟩) => (Nat.beq f0.offset 0 && Nat.beq f1.offset 1) && (isI64 P f0.type && isI64 P f1.type) && (Nat.beq (P.cellsOf f0.type) 1 && Nat.beq (P.cellsOf f1.type) 1 && Nat.beq (P.cellsOf tn) 2)
  | _ => false
section
variable {H : Type} {enc : TypeId × Value → H} {P : Program}
theorem in_pos {w : World} {tn : Nat} (hk : inPosOk P tn = true) {fuel : Nat} {cs : List Value} {x : DataW H × List MemPlace} (h : DataW.trod enc P w 0 (fun _ => true) true fuel tn cs = some x) : ∃ a b : Int, cs = [I a, I b] := by
  unfold inPosOk at hk
  split at hk
  · rename_i f0 f1 he
    simp only [Bool.and_eq_true] at hk
    obtain ⟨⟨⟨a0, a1⟩, b0, b1⟩, ⟨c0, c1⟩, c2⟩ := hk
    obtain ⟨xs, n, hn, _, hcl, hxl, hf⟩ := DataW.trod_struct he h
    rw [Nat.eq_of_beq_eq_true c2] at hcl
    have hxl : xs.length = 2 := hxl
    match cs, hcl with
    | [v0, v1], _ =>
      have g0 := hf 0 f0 rfl
      have g1 := hf 1 f1 rfl
      rw [Nat.eq_of_beq_eq_true a0, Nat.eq_of_beq_eq_true c0] at g0
      rw [Nat.eq_of_beq_eq_true a1, Nat.eq_of_beq_eq_true c1] at g1
      simp only [List.drop, List.take] at g0 g1
      rw [List.getElem?_eq_getElem (by omega)] at g0 g1
      obtain ⟨i, e0, _⟩ := DataW.trod_int (isI64_is b0) g0
      obtain ⟨k, e1, _⟩ := DataW.trod_int (isI64_is b1) g1
      simp only [List.cons.injEq, and_true] at e0 e1
      subst e0 e1
      exact ⟨i, k, rfl⟩
  · cases hk
end
theorem in_pos1 {H : Type} {enc : TypeId × Value → H} {P : Program} {W : World} {r : Reach} {b0 t : Nat} {v : Value} {d : DataW H} {ps : List MemPlace} (hk : inPosOk P t = true) (hval : Value.okWide P W r b0 t v) (h : DataW.Trod enc P W 0 (fun _ => true) true t v d ps) :
    ∃ a b : Int, v = .agg #[I a, I b] := by
  obtain ⟨fuel, hf⟩ := h
  obtain ⟨a, b, e⟩ := in_pos hk hf
  unfold inPosOk at hk
  split at hk
  · rename_i f0 f1 he
    unfold Value.okWide at hval
    rw [he] at hval
    obtain ⟨cs, rfl, _⟩ := hval
    have e : cs.toList = [I a, I b] := e
    exact ⟨a, b, by rw [show cs = #[I a, I b] from Array.toList_inj.1 e]⟩
  · cases hk
end Go.GL
