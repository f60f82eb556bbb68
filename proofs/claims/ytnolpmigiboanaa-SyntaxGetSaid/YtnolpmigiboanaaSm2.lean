/- Trees held against trees, rows of trees read: plain laws. No condition; over every program. -/
import Derived.Test.YtnolpmigiboanaaBld
namespace Go.GL
namespace Tree
mutual
def eqv : Tree → Tree → Bool
  | .node _ k tx ks, t => decide (k = t.kind) && (decide (tx = t.txt) && eqvAll ks t.kids)
def eqvAll : List Tree → List Tree → Bool
  | [], us => us.isEmpty
  | t :: ts, us => match us with
    | [] => false
    | u :: us => eqv t u && eqvAll ts us
end
theorem eqv_eq (s t : Tree) : eqv s t = (decide (s.kind = t.kind) && (decide (s.txt = t.txt) && eqvAll s.kids t.kids)) := by cases s; rw [eqv]; rfl
mutual
theorem eqv_refl : ∀ t : Tree, eqv t t = true
  | .node i k tx ks => by
    have := eqvAll_refl ks
    rw [eqv]
    simpa [Tree.kind, Tree.txt, Tree.kids] using this
theorem eqvAll_refl : ∀ ts : List Tree, eqvAll ts ts = true
  | [] => rfl
  | t :: ts => by rw [eqvAll]; simp [eqv_refl t, eqvAll_refl ts]
end
theorem eqvAll_len : ∀ {ts us : List Tree}, ts.length ≠ us.length → eqvAll ts us = false
  | [], [], h => absurd rfl h
  | [], u :: us, _ => rfl
  | t :: ts, [], _ => rfl
  | t :: ts, u :: us, h => by rw [eqvAll, eqvAll_len (ts := ts) (us := us) (fun e => h (by simp [e]))]; simp
theorem eqvAll_drop {ts us : List Tree} {k : Nat} (h1 : k < ts.length) (h2 : k < us.length) : eqvAll (ts.drop k) (us.drop k) = (eqv ts[k] us[k] && eqvAll (ts.drop (k + 1)) (us.drop (k + 1))) := by
  rw [List.drop_eq_getElem_cons h1, List.drop_eq_getElem_cons h2, eqvAll]
theorem eqvAll_end {ts us : List Tree} {k : Nat} (h1 : ts.length ≤ k) (h2 : us.length ≤ k) : eqvAll (ts.drop k) (us.drop k) = true := by
  rw [List.drop_of_length_le h1, List.drop_of_length_le h2]; rfl
def ids (t : Tree) : List Int := t.pre.map id
theorem preAll_step {ks : List Tree} {k : Nat} (h : k < ks.length) : preAll (ks.take (k + 1)) = preAll (ks.take k) ++ ks[k].pre := by
  rw [List.take_succ_eq_append_getElem h, preAll_append]
  simp [preAll]
theorem preAll_take_le (ks : List Tree) (k : Nat) : (preAll (ks.take k)).length ≤ (preAll ks).length := by
  conv => rhs; rw [← List.take_append_drop k ks, preAll_append, List.length_append]
  omega
end Tree
open Tree
theorem TreesAt.at {w K} : ∀ {ts : List Tree} {cs : List Value} {k : Nat} (h : k < ts.length), TreesAt w K ts cs → cs[k * 4]? = some (I ts[k].id)
  | t :: ts, cs, 0, h, ⟨a, len, cap, rest, h1, _, _⟩ => by rw [h1]; rfl
  | t :: ts, cs, k + 1, h, ⟨a, len, cap, rest, h1, _, h3⟩ => by
    have := TreesAt.at (k := k) (by simpa using h) h3
    rw [h1, show (k + 1) * 4 = 4 + k * 4 from by omega, List.getElem?_append_right (by simp)]
    simpa using this
theorem trees_ne {w : World} {M : List HP} {F : List Fact} {ts : List Tree} {cs : List Value} (h : St w M F) (hF : TreesF ts cs ∈ F) (h0 : 0 < ts.length) : cs ≠ [] := by
  have := trees_len h hF
  intro e
  rw [e] at this
  simp at this
  omega
theorem St.trees2 {w : World} {M : List HP} {F : List Fact} {ts us : List Tree} {cs ds : List Value} (h : St w M F) (h1 : TreesF ts cs ∈ F) (h2 : TreesF us ds ∈ F) : St w M (TreesF (ts ++ us) (cs ++ ds) :: F) :=
  h.addFact _ fun _ hf => TreesAt.append (hf _ h1) (hf _ h2)
/-- a row of trees that is handed over -/
structure RowX where
  oa : Option Addr
  oc : Nat
  cs : List Value
namespace Tree
theorem Small.zero {d : Nat} (h : 1 ≤ d) : Small d (.node 0 0 [] []) := by
  cases d with
  | zero => omega
  | succ d => exact ⟨Nat.zero_le _, Nat.zero_le _, fun _ => rfl, fun k hk => by cases hk⟩
theorem Small.pos {d : Nat} {t : Tree} (h : Small d t) : 1 ≤ d := by
  cases d with
  | zero => exact h.elim
  | succ d => omega
theorem Small.get {d : Nat} : ∀ {is : List Int} {t : Tree} {p : Nat} {k : Tree} {q : Nat}, Small d t → t.get is p = some (k, q) → Small d k
  | [], t, p, k, q, h, e => by
    rw [Tree.get] at e
    simp only [Option.some.injEq, Prod.mk.injEq] at e
    rw [← e.1]; exact h
  | i :: is, t, p, k, q, h, e => by
    rw [Tree.get] at e
    split at e
    · cases e
    · split at e
      · rename_i u hu
        cases d with
        | zero => exact h.elim
        | succ d => exact (Small.get (h.kid (List.mem_of_getElem? hu)) e).mono (by omega)
      · cases e
theorem Small.getR {d : Nat} {t : Tree} (h : Small d t) (is : List Int) : Small d (t.getR is).1 := by
  unfold Tree.getR
  cases hg : t.get is 0 with
  | none => exact Small.zero h.pos
  | some x => obtain ⟨k, q⟩ := x; exact h.get hg
end Tree
/-- a list of ints that is handed over -/
structure RowI where
  oa : Option Addr
  oc : Nat
  ps : List Int
end Go.GL
