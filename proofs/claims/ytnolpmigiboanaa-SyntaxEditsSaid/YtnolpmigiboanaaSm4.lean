/- Trees numbered anew, a node put in another's place: plain laws. No condition; over every program. -/
import Derived.Test.YtnolpmigiboanaaSm3
namespace Go.GL
namespace Tree
def nx (p : Int) : Int := IntKind.i64.wrap (p + 1)
mutual
def renum : Tree → Int → Tree × Int
  | .node _ k tx ks, p => (.node p k tx (renumAll ks (nx p)).1, (renumAll ks (nx p)).2)
def renumAll : List Tree → Int → List Tree × Int
  | [], p => ([], p)
  | t :: ts, p => ((renum t p).1 :: (renumAll ts (renum t p).2).1, (renumAll ts (renum t p).2).2)
end
theorem renum_eq (t : Tree) (p : Int) : renum t p = (.node p t.kind t.txt (renumAll t.kids (nx p)).1, (renumAll t.kids (nx p)).2) := by cases t; rw [renum]; rfl
theorem renumAll_append : ∀ (a b : List Tree) (p : Int), renumAll (a ++ b) p = ((renumAll a p).1 ++ (renumAll b (renumAll a p).2).1, (renumAll b (renumAll a p).2).2)
  | [], b, p => by simp [renumAll]
  | x :: a, b, p => by rw [List.cons_append, renumAll, renumAll, renumAll_append a b]; simp
theorem renumAll_step {ks : List Tree} {k : Nat} (h : k < ks.length) (p : Int) : renumAll (ks.take (k + 1)) p = ((renumAll (ks.take k) p).1 ++ [(renum ks[k] (renumAll (ks.take k) p).2).1], (renum ks[k] (renumAll (ks.take k) p).2).2) := by
  rw [List.take_succ_eq_append_getElem h, renumAll_append, renumAll, renumAll]
theorem renumAll_length : ∀ (ks : List Tree) (p : Int), (renumAll ks p).1.length = ks.length
  | [], p => by simp [renumAll]
  | t :: ts, p => by rw [renumAll]; simp [renumAll_length ts]
mutual
theorem eqv_renum : ∀ (t : Tree) (p : Int), eqv t (renum t p).1 = true
  | .node i k tx ks, p => by
    rw [renum, eqv]
    have := eqvAll_renum ks (nx p)
    simpa [Tree.kind, Tree.txt, Tree.kids] using this
theorem eqvAll_renum : ∀ (ts : List Tree) (p : Int), eqvAll ts (renumAll ts p).1 = true
  | [], p => by simp [renumAll, eqvAll]
  | t :: ts, p => by rw [renumAll, eqvAll, eqv_renum t p, eqvAll_renum ts]; rfl
end
mutual
theorem eqv_renum' : ∀ (t : Tree) (p : Int), eqv (renum t p).1 t = true
  | .node i k tx ks, p => by
    rw [renum, eqv]
    have := eqvAll_renum' ks (nx p)
    simpa [Tree.kind, Tree.txt, Tree.kids] using this
theorem eqvAll_renum' : ∀ (ts : List Tree) (p : Int), eqvAll (renumAll ts p).1 ts = true
  | [], p => by simp [renumAll, eqvAll]
  | t :: ts, p => by rw [renumAll, eqvAll, eqv_renum' t p, eqvAll_renum' ts]; rfl
end
theorem Small.renum {d : Nat} : ∀ {t : Tree} (p : Int), Small d t → Small d (renum t p).1 := by
  induction d with
  | zero => intro t p h; exact h.elim
  | succ d ih =>
    intro t p h
    rw [renum_eq]
    refine ⟨h.1, by show (renumAll t.kids (nx p)).1.length ≤ 4; rw [renumAll_length]; exact h.2.1, fun hl => ?_, ?_⟩
    · have : t.kids = [] := h.2.2.1 hl
      show (renumAll t.kids (nx p)).1 = []
      rw [this]; simp [renumAll]
    · show ∀ k, k ∈ (renumAll t.kids (nx p)).1 → Small d k
      have key : ∀ (ks : List Tree) (q : Int), (∀ k, k ∈ ks → Small d k) → ∀ k, k ∈ (renumAll ks q).1 → Small d k := by
        intro ks
        induction ks with
        | nil => intro q _ k hk; simp [renumAll] at hk
        | cons x xs ihx =>
          intro q hx k hk
          rw [renumAll] at hk
          rcases List.mem_cons.1 hk with e | e
          · rw [e]; exact ih q (hx x (.head _))
          · exact ihx _ (fun y hy => hx y (.tail _ hy)) k e
      exact key _ _ h.2.2.2
/-- a node put in at a path -/
def repl : Tree → List Int → Tree → Option Tree
  | _, [], u => some u
  | t, i :: is, u => if i < 0 then none else match t.kids[i.toNat]? with
    | some k => (repl k is u).map fun v => .node t.id t.kind t.txt (t.kids.set i.toNat v)
    | none => none
def replR (t : Tree) (is : List Int) (u : Tree) : Tree × Bool := match repl t is u with
  | some v => (v, true)
  | none => (.node 0 0 [] [], false)
theorem repl_out {t : Tree} {i : Int} {is : List Int} {u : Tree} (h : i < 0 ∨ (t.kids.length : Int) ≤ i) : t.repl (i :: is) u = none := by
  rw [repl]
  split
  · rfl
  · rw [List.getElem?_eq_none (by omega)]
theorem repl_in {t : Tree} {i : Nat} {is : List Int} {u : Tree} (h : i < t.kids.length) : t.repl ((i : Int) :: is) u = (repl t.kids[i] is u).map fun v => .node t.id t.kind t.txt (t.kids.set i v) := by
  rw [repl, if_neg (by omega), Int.toNat_natCast, List.getElem?_eq_getElem h]
theorem replR_yes {t : Tree} {i : Nat} {is : List Int} {u z : Tree} (h : i < t.kids.length) (hy : (replR t.kids[i] is u).2 = true) (hz : z = (replR t.kids[i] is u).1) : replR t ((i : Int) :: is) u = (.node t.id t.kind t.txt (t.kids.set i z), true) := by
  subst hz
  unfold replR at hy ⊢
  rw [repl_in h]
  cases hr : repl t.kids[i] is u with
  | none => rw [hr] at hy; cases hy
  | some v => rfl
end Tree
open Tree
theorem TreesAt.set {w K} : ∀ {ts : List Tree} {cs : List Value} {k : Nat} {x : TX}, k < ts.length → TreesAt w K ts cs → TreeAt w K x.t x.v → TreesAt w K (ts.set k x.t) (cs.take (k * 4) ++ x.c ++ cs.drop (k * 4 + 4))
  | t :: ts, cs, 0, x, h, ⟨a, len, cap, rest, h1, h2, h3⟩, hx => by
    rw [h1]
    exact ⟨x.a, x.len, x.cap, rest, by simp [nodeC], hx, h3⟩
  | t :: ts, cs, k + 1, x, h, ⟨a, len, cap, rest, h1, h2, h3⟩, hx => by
    have := TreesAt.set (k := k) (x := x) (by simpa using h) h3 hx
    refine ⟨a, len, cap, _, ?_, h2, this⟩
    rw [h1, show (k + 1) * 4 = k * 4 + 1 + 1 + 1 + 1 from by omega, show k * 4 + 1 + 1 + 1 + 1 + 4 = (k * 4 + 4) + 1 + 1 + 1 + 1 from by omega]
    simp [nodeC]
end Go.GL
