/- Trees held against trees, rows of trees read: plain laws. No condition; over every program. -/
import Derived.Test.YtnolpmigiboanaaBld
import Derived.Laws.StructEq
namespace Go.GL
namespace Tree
mutual
def eqv : Tree → Tree → Bool
  | .node _ k tx ks, t => decide (k = t.kind) && (decide (tx = t.txt) && eqvAll ks t.kids)
def eqvAll : List Tree → List Tree → Bool
  | [], us => us.isEmpty
  | t :: ts, us => match us with
    | [] => false
    | u :: us => eqv t u && eqvAll ts us
end
theorem eqv_eq (s t : Tree) : eqv s t = (decide (s.kind = t.kind) && (decide (s.txt = t.txt) && eqvAll s.kids t.kids)) := by cases s; rw [eqv]; rfl
mutual
theorem eqv_refl : ∀ t : Tree, eqv t t = true
  | .node i k tx ks => by
    have := eqvAll_refl ks
    rw [eqv]
    simpa [Tree.kind, Tree.txt, Tree.kids] using this
theorem eqvAll_refl : ∀ ts : List Tree, eqvAll ts ts = true
  | [] => rfl
  | t :: ts => by rw [eqvAll]; simp [eqv_refl t, eqvAll_refl ts]
end
theorem eqvAll_len : ∀ {ts us : List Tree}, ts.length ≠ us.length → eqvAll ts us = false
  | [], [], h => absurd rfl h
  | [], u :: us, _ => rfl
  | t :: ts, [], _ => rfl
  | t :: ts, u :: us, h => by rw [eqvAll, eqvAll_len (ts := ts) (us := us) (fun e => h (by simp [e]))]; simp
theorem eqvAll_drop {ts us : List Tree} {k : Nat} (h1 : k < ts.length) (h2 : k < us.length) : eqvAll (ts.drop k) (us.drop k) = (eqv ts[k] us[k] && eqvAll (ts.drop (k + 1)) (us.drop (k + 1))) := by
  rw [List.drop_eq_getElem_cons h1, List.drop_eq_getElem_cons h2, eqvAll]
theorem eqvAll_end {ts us : List Tree} {k : Nat} (h1 : ts.length ≤ k) (h2 : us.length ≤ k) : eqvAll (ts.drop k) (us.drop k) = true := by
  rw [List.drop_of_length_le h1, List.drop_of_length_le h2]; rfl
def ids (t : Tree) : List Int := t.pre.map id
theorem preAll_step {ks : List Tree} {k : Nat} (h : k < ks.length) : preAll (ks.take (k + 1)) = preAll (ks.take k) ++ ks[k].pre := by
  rw [List.take_succ_eq_append_getElem h, preAll_append]
  simp [preAll]
theorem preAll_take_le (ks : List Tree) (k : Nat) : (preAll (ks.take k)).length ≤ (preAll ks).length := by
  conv => rhs; rw [← List.take_append_drop k ks, preAll_append, List.length_append]
  omega
end Tree
open Tree
theorem TreesAt.at {w K} : ∀ {ts : List Tree} {cs : List Value} {k : Nat} (h : k < ts.length), TreesAt w K ts cs → cs[k * 4]? = some (I ts[k].id)
  | t :: ts, cs, 0, h, ⟨a, len, cap, rest, h1, _, _⟩ => by rw [h1]; rfl
  | t :: ts, cs, k + 1, h, ⟨a, len, cap, rest, h1, _, h3⟩ => by
    have := TreesAt.at (k := k) (by simpa using h) h3
    rw [h1, show (k + 1) * 4 = 4 + k * 4 from by omega, List.getElem?_append_right (by simp)]
    simpa using this
theorem trees_ne {w : World} {M : List HP} {F : List Fact} {ts : List Tree} {cs : List Value} (h : St w M F) (hF : TreesF ts cs ∈ F) (h0 : 0 < ts.length) : cs ≠ [] := by
  have := trees_len h hF
  intro e
  rw [e] at this
  simp at this
  omega
theorem St.trees2 {w : World} {M : List HP} {F : List Fact} {ts us : List Tree} {cs ds : List Value} (h : St w M F) (h1 : TreesF ts cs ∈ F) (h2 : TreesF us ds ∈ F) : St w M (TreesF (ts ++ us) (cs ++ ds) :: F) :=
  h.addFact _ fun _ hf => TreesAt.append (hf _ h1) (hf _ h2)
/-- a row of trees that is handed over -/
structure RowX where
  oa : Option Addr
  oc : Nat
  cs : List Value
namespace Tree
theorem Small.zero {d : Nat} (h : 1 ≤ d) : Small d (.node 0 0 [] []) := by
  cases d with
  | zero => omega
  | succ d => exact ⟨Nat.zero_le _, Nat.zero_le _, fun _ => rfl, fun k hk => by cases hk⟩
theorem Small.pos {d : Nat} {t : Tree} (h : Small d t) : 1 ≤ d := by
  cases d with
  | zero => exact h.elim
  | succ d => omega
theorem Small.get {d : Nat} : ∀ {is : List Int} {t : Tree} {p : Nat} {k : Tree} {q : Nat}, Small d t → t.get is p = some (k, q) → Small d k
  | [], t, p, k, q, h, e => by
    rw [Tree.get] at e
    simp only [Option.some.injEq, Prod.mk.injEq] at e
    rw [← e.1]; exact h
  | i :: is, t, p, k, q, h, e => by
    rw [Tree.get] at e
    split at e
    · cases e
    · split at e
      · rename_i u hu
        cases d with
        | zero => exact h.elim
        | succ d => exact (Small.get (h.kid (List.mem_of_getElem? hu)) e).mono (by omega)
      · cases e
theorem Small.getR {d : Nat} {t : Tree} (h : Small d t) (is : List Int) : Small d (t.getR is).1 := by
  unfold Tree.getR
  cases hg : t.get is 0 with
  | none => exact Small.zero h.pos
  | some x => obtain ⟨k, q⟩ := x; exact h.get hg
end Tree
/-- a list of ints that is handed over -/
structure RowI where
  oa : Option Addr
  oc : Nat
  ps : List Int
/-! ### Tokens -/
def isI64t (P : Program) (t : TypeId) : Bool := match P.underlying t with | some (.int .i64) => true | _ => false
theorem isI64t_is {P : Program} {t : TypeId} (h : isI64t P t = true) : P.underlying t = some (.int .i64) := by
  unfold isI64t at h
  split at h
  · rename_i he; exact he
  · cases h
def tokOk (P : Program) (t : Nat) : Bool := match (P.fieldsOf t).toList with
  | [f0, f1, f2] => (decide (f0.name ≠ "_") && decide (f1.name ≠ "_") && decide (f2.name ≠ "_")) && (Nat.beq f0.offset 0 && Nat.beq f1.offset 1 && Nat.beq f2.offset 2) && (isI64t P f0.type && tyStr P f1.type && isI64t P f2.type)
  | _ => false
theorem part_int {P : Program} {w : World} {t off : Nat} {cs : Array Value} {v : Value} (h : P.underlying t = some (.int .i64)) (hv : cs[off]? = some v) : (part t cs off).run P w = .ok v w := by
  simp [part, isAgg, run_underlying h, hv]
theorem part_str {P : Program} {w : World} {t off : Nat} {cs : Array Value} {v : Value} (h : P.underlying t = some .string) (hv : cs[off]? = some v) : (part t cs off).run P w = .ok v w := by
  simp [part, isAgg, run_underlying h, hv]
theorem tok_neq {P : Program} {t : Nat} (hf : tokOk P t = true) (hu : P.underlying t = some (.struct (P.fieldsOf t))) (hh : P.stoodInHeld t = false) (hg : P.eqGuardType P.depth t = false) (i k : Int) (s : List UInt8) : BinV P .neq t (.agg #[I i, S s, I k]) (.agg #[I i, S s, I k]) (.bool false) := by
  refine ⟨fun w => ?_, fun ox oy w => run_eqGuard_agg w .neq t ox oy _ _ hg⟩
  rw [run_neq_struct, run_equalIn_agg w 9999 t _ _ hu hh]
  unfold tokOk at hf
  split at hf
  · rename_i f0 f1 f2 he
    simp only [Bool.and_eq_true, decide_eq_true_eq] at hf
    obtain ⟨⟨⟨⟨n0, n1⟩, n2⟩, ⟨o0, o1⟩, o2⟩, ⟨t0, t1⟩, t2⟩ := hf
    have o0 := Nat.eq_of_beq_eq_true o0
    have o1 := Nat.eq_of_beq_eq_true o1
    have o2 := Nat.eq_of_beq_eq_true o2
    have t0 := isI64t_is t0
    have t1 := tyStr_underlying t1
    have t2 := isI64t_is t2
    have e0 : ((Op.equalIn 9999 f0.type (I i) (I i)).run P w) = .ok true w := by rw [run_equalIn_int w 9998 f0.type .i64 .i64 i i t0]; simp
    have e1 : ((Op.equalIn 9999 f1.type (S s) (S s)).run P w) = .ok true w := by rw [run_equalIn_string w 9998 f1.type _ _ t1]; simp
    have e2 : ((Op.equalIn 9999 f2.type (I k) (I k)).run P w) = .ok true w := by rw [run_equalIn_int w 9998 f2.type .i64 .i64 k k t2]; simp
    have p0 : (part f0.type #[I i, S s, I k] f0.offset).run P w = .ok (I i) w := part_int t0 (by rw [o0]; rfl)
    have p1 : (part f1.type #[I i, S s, I k] f1.offset).run P w = .ok (S s) w := part_str t1 (by rw [o1]; rfl)
    have p2 : (part f2.type #[I i, S s, I k] f2.offset).run P w = .ok (I k) w := part_int t2 (by rw [o2]; rfl)
    rw [he]
    simp [Op.eqFields, n0, n1, n2, p0, p1, p2, e0, e1, e2]
  · cases hf
namespace Tree
theorem toks_at : ∀ {l : List Tree} {p k : Nat} (h : k < l.length) (j : Nat) (v : Value), [I l[k].kind, S l[k].txt, I (p + ((l.take k).flatMap txt).length : Nat)][j]? = some v → (toks p l)[k * 3 + j]? = some v
  | x :: l, p, 0, h, j, v, e => by
    rw [toks]
    have hj := (List.getElem?_eq_some_iff.1 e).1
    match j, hj with
    | 0, _ => simpa using e
    | 1, _ => simpa using e
    | 2, _ => simpa using e
  | x :: l, p, k + 1, h, j, v, e => by
    have := toks_at (l := l) (p := p + x.txt.length) (k := k) (by simpa using h) j v (by
      rw [← e]
      simp only [List.getElem_cons_succ, List.take_succ_cons, List.flatMap_cons, List.length_append, Nat.add_assoc])
    rw [toks, show (k + 1) * 3 + j = (k * 3 + j) + 1 + 1 + 1 from by omega]
    simpa using this
end Tree
theorem CellsAt.sub {w : World} {K : List Nat} {b off o : Nat} {cs vs : List Value} (h : CellsAt w K b off cs) (hs : ∀ j v, vs[j]? = some v → cs[o + j]? = some v) : CellsAt w K b (off + o) vs :=
  ⟨h.1, h.2.1, fun j v hv => by rw [Nat.add_assoc]; exact h.2.2 _ v (hs j v hv)⟩
theorem run_tok {P : Program} {w : World} {K : List Nat} {b off q T k : Nat} {l : List Tree} (h : CellsAt w K b off (toks q l)) (ht : tyAgg P T 3 = true) (hk : k < l.length) : Reads P w T ⟨b, off + (k : Int).toNat * 3, none⟩ (.agg #[I l[k].kind, S l[k].txt, I (q + ((l.take k).flatMap txt).length : Nat)]) :=
  run_loadCellsAt (cs := [I l[k].kind, S l[k].txt, I (q + ((l.take k).flatMap txt).length : Nat)]) (h.sub (o := k * 3) fun j v hv => toks_at hk j v hv) ht
/-- a variable that holds a row of tokens of one's own -/
def Lf (T e b : Nat) (l : List Tree) : HP := Ex (ι := Option Addr × Nat) fun i => [Box b T [.slice i.1 l.length i.2], OwnSl e 3 i.1 l.length i.2 (toks 0 l)]
theorem St.lfNew {w : World} {M : List HP} {F : List Fact} {T e b : Nat} (h : St w (Box b T [.slice none 0 0] :: M) F) : St w (Lf T e b [] :: M) F :=
  St.exClose (none, 0) ((OwnSl.nil_new e 3 h).swap)
end Go.GL
