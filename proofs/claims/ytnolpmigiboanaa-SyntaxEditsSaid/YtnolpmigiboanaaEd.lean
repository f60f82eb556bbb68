/- Edits of a text: plain functions and laws, and how they lie in memory. No condition; over every program. -/
import Derived.Test.YtnolpmigiboanaaBld
namespace Go.GL
structure Ed where
  f : Int
  t : Int
  x : List UInt8
abbrev Ed.c (e : Ed) : List Value := [I e.f, I e.t, S e.x]
def edC : List Ed → List Value
  | [] => []
  | e :: es => e.c ++ edC es
theorem edC_length : ∀ es : List Ed, (edC es).length = es.length * 3
  | [] => rfl
  | e :: es => by rw [edC, List.length_append, edC_length es]; simp; omega
theorem edC_at : ∀ {es : List Ed} {k j : Nat} {v : Value} (h : k < es.length), (es[k].c)[j]? = some v → (edC es)[k * 3 + j]? = some v
  | e :: es, 0, j, v, h, hv => by
    rw [edC, Nat.zero_mul, Nat.zero_add, List.getElem?_append_left (by have := (List.getElem?_eq_some_iff.1 hv).1; simpa using this)]
    exact hv
  | e :: es, k + 1, j, v, h, hv => by
    rw [edC, List.getElem?_append_right (by simp; omega)]
    have := edC_at (es := es) (k := k) (j := j) (v := v) (by simpa using h) hv
    rw [← this]
    congr 1
    simp; omega
theorem edC_one : ∀ es : List Ed, (edC es).all Value.oneCell' = true
  | [] => rfl
  | e :: es => by
    rw [edC, List.all_append, edC_one es]; rfl
theorem edC_append : ∀ a b : List Ed, edC (a ++ b) = edC a ++ edC b
  | [], b => rfl
  | e :: es, b => by rw [List.cons_append, edC, edC, edC_append es b, List.append_assoc]
theorem run_ed {P : Program} {w : World} {K : List Nat} {b off T k : Nat} {es : List Ed} (h : CellsAt w K b off (edC es)) (ht : tyAgg P T 3 = true) (hk : k < es.length) : Reads P w T ⟨b, off + (k : Int).toNat * 3, none⟩ (.agg (es[k].c).toArray) := by
  refine run_loadVar_agg ht rfl fun j v hv => ?_
  rw [addr_add, Nat.add_assoc]
  exact h.2.2 _ v (edC_at hk hv)
/-- the first error of edits, from an offset on -/
def sound1 (size : Int) : Int → List Ed → Int
  | _, [] => 0
  | last, e :: es => if e.f < 0 ∨ e.t < e.f ∨ size < e.t then 5 else if e.f < last then 1 else sound1 size e.t es
def soundE (size : Int) (es : List Ed) : Int := if 64 < es.length then 4 else sound1 size 0 es
theorem sound1_cons {size last : Int} {e : Ed} {es : List Ed} (h : sound1 size last (e :: es) = 0) : 0 ≤ e.f ∧ e.f ≤ e.t ∧ e.t ≤ size ∧ last ≤ e.f ∧ sound1 size e.t es = 0 := by
  rw [sound1] at h
  by_cases h1 : e.f < 0 ∨ e.t < e.f ∨ size < e.t
  · rw [if_pos h1] at h; exact absurd h (by decide)
  · rw [if_neg h1] at h
    by_cases h2 : e.f < last
    · rw [if_pos h2] at h; exact absurd h (by decide)
    · rw [if_neg h2] at h
      exact ⟨by omega, by omega, by omega, by omega, h⟩
theorem sound1_bad {size last : Int} {e : Ed} {es : List Ed} (h1 : e.f < 0 ∨ e.t < e.f ∨ size < e.t) : sound1 size last (e :: es) = 5 := by rw [sound1, if_pos h1]
theorem sound1_low {size last : Int} {e : Ed} {es : List Ed} (h1 : ¬ (e.f < 0 ∨ e.t < e.f ∨ size < e.t)) (h2 : e.f < last) : sound1 size last (e :: es) = 1 := by rw [sound1, if_neg h1, if_pos h2]
theorem sound1_on {size last : Int} {e : Ed} {es : List Ed} (h1 : ¬ (e.f < 0 ∨ e.t < e.f ∨ size < e.t)) (h2 : ¬ e.f < last) : sound1 size last (e :: es) = sound1 size e.t es := by rw [sound1, if_neg h1, if_neg h2]
/-- the text behind edits, from an offset on -/
def applyGo (s : List UInt8) : Nat → List Ed → List UInt8
  | q, [] => s.drop q
  | q, e :: es => (s.take e.f.toNat).drop q ++ (e.x ++ applyGo s e.t.toNat es)
def applyE (s : List UInt8) (es : List Ed) : List UInt8 × Int := if soundE s.length es = 0 then (applyGo s 0 es, 0) else ([], soundE s.length es)
theorem soundE_sound1 {size : Int} {es : List Ed} (h : soundE size es = 0) : sound1 size 0 es = 0 := by
  unfold soundE at h
  split at h
  · exact absurd h (by decide)
  · exact h
/-- what Diff finds -/
structure DiffOk (a b : List UInt8) (es : List Ed) : Prop where
  one : es.length ≤ 1
  sound : sound1 a.length 0 es = 0
  apply : applyGo a 0 es = b
theorem diff_none {a b : List UInt8} (h : a = b) : DiffOk a b [] := ⟨by simp, rfl, by rw [h]; simp [applyGo]⟩
theorem drop_split {α : Type} {l : List α} {p n : Nat} (h : p ≤ n) : l.drop p = (l.take n).drop p ++ l.drop n := by
  conv => lhs; rw [← List.take_append_drop n l]
  rw [List.drop_append]
  congr 1
  rw [List.length_take]
  rcases Nat.le_total n l.length with h1 | h1
  · rw [Nat.min_eq_left h1, show p - n = 0 from by omega, List.drop_zero]
  · rw [List.drop_of_length_le h1]; simp
theorem diff_some {a b : List UInt8} {p q : Nat} (hp : a.take p = b.take p) (hpa : p + q ≤ a.length) (hpb : p + q ≤ b.length) (hq : a.drop (a.length - q) = b.drop (b.length - q)) :
    DiffOk a b [⟨p, (a.length - q : Nat), (b.take (b.length - q)).drop p⟩] := by
  refine ⟨by simp, ?_, ?_⟩
  · rw [sound1, if_neg (by simp only; omega), if_neg (by simp only; omega), sound1]
  · simp only [applyGo, Int.toNat_natCast, List.drop_zero]
    rw [hp, hq, ← drop_split (by omega), List.take_append_drop]
theorem suffix_step {a b : List UInt8} {q : Nat} (ha : q < a.length) (hb : q < b.length) (hq : a.drop (a.length - q) = b.drop (b.length - q)) (he : a[a.length - 1 - q] = b[b.length - 1 - q]) : a.drop (a.length - (q + 1)) = b.drop (b.length - (q + 1)) := by
  rw [show a.length - (q + 1) = a.length - 1 - q from by omega, show b.length - (q + 1) = b.length - 1 - q from by omega, List.drop_eq_getElem_cons (l := a) (i := a.length - 1 - q) (by omega), List.drop_eq_getElem_cons (l := b) (i := b.length - 1 - q) (by omega), he, show a.length - 1 - q + 1 = a.length - q from by omega, show b.length - 1 - q + 1 = b.length - q from by omega, hq]
theorem takeEq_step {a b : List UInt8} {p : Nat} (ha : p < a.length) (hb : p < b.length) (hp : a.take p = b.take p) (he : a[p] = b[p]) : a.take (p + 1) = b.take (p + 1) := by
  rw [List.take_succ_eq_append_getElem ha, List.take_succ_eq_append_getElem hb, hp, he]
theorem byte_eq {u v : UInt8} (h : (u.toNat : Int) = (v.toNat : Int)) : u = v := UInt8.toNat_inj.1 (by omega)
end Go.GL
