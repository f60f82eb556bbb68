/- A node replaced, and the text: plain laws. No condition; over every program. -/
import Derived.Test.YtnolpmigiboanaaSm6
import Derived.Test.YtnolpmigiboanaaEd
namespace Go.GL
namespace Tree
theorem kids_text {ks : List Tree} {i : Nat} (h : i < ks.length) : ks.flatMap text = (ks.take i).flatMap text ++ (ks[i].text ++ (ks.drop (i + 1)).flatMap text) := by
  conv => lhs; rw [← List.take_append_drop i ks, List.drop_eq_getElem_cons h]
  rw [List.flatMap_append, List.flatMap_cons]
theorem get_repl_text {u : Tree} : ∀ {ps : List Int} {d : Nat} {t v k : Tree} {p q : Nat}, Small d t → t.get ps p = some (k, q) → Tree.repl t ps u = some v → ∃ a c, t.text = a ++ (k.text ++ c) ∧ v.text = a ++ (u.text ++ c) ∧ q = p + a.length
  | [], d, t, v, k, p, q, _, hg, hr => by
    rw [Tree.get] at hg
    rw [Tree.repl] at hr
    cases hg; cases hr
    exact ⟨[], [], by simp, by simp, rfl⟩
  | i :: is, 0, t, v, k, p, q, hs, _, _ => hs.elim
  | i :: is, d + 1, t, v, k, p, q, hs, hg, hr => by
    rw [Tree.get] at hg
    rw [Tree.repl] at hr
    by_cases hi : i < 0
    · rw [if_pos hi] at hr; cases hr
    rw [if_neg hi] at hg hr
    cases hk : t.kids[i.toNat]? with
    | none => rw [hk] at hr; cases hr
    | some kk =>
      rw [hk] at hg hr
      simp only at hg hr
      cases hv : Tree.repl kk is u with
      | none => rw [hv] at hr; cases hr
      | some v' =>
        rw [hv] at hr
        cases hr
        obtain ⟨hlt, he⟩ := List.getElem?_eq_some_iff.1 hk
        obtain ⟨a, c, h1, h2, h3⟩ := get_repl_text (hs.kid (he ▸ List.getElem_mem hlt)) hg hv
        have hin := hs.inner hlt
        have hl2 : (Tree.node t.id t.kind t.txt (t.kids.set i.toNat v')).isLeaf = false := hin
        refine ⟨(t.kids.take i.toNat).flatMap text ++ a, c ++ (t.kids.drop (i.toNat + 1)).flatMap text, ?_, ?_, ?_⟩
        · rw [inner_text hin, kids_text hlt, he, h1]; simp only [List.append_assoc]
        · rw [inner_text hl2]
          show (t.kids.set i.toNat v').flatMap text = _
          rw [kids_text (i := i.toNat) (by rw [List.length_set]; exact hlt), List.getElem_set_self, h2, List.take_set_of_le (by omega), List.drop_set_of_lt (by omega)]
          simp only [List.append_assoc]
        · rw [h3, List.length_append]; omega
theorem get_repl_some {u : Tree} : ∀ {ps : List Int} {t : Tree} {p : Nat}, (t.get ps p).isSome = (Tree.repl t ps u).isSome
  | [], t, p => by rw [Tree.get, Tree.repl]; rfl
  | i :: is, t, p => by
    rw [Tree.get, Tree.repl]
    by_cases hi : i < 0
    · rw [if_pos hi, if_pos hi]; rfl
    · rw [if_neg hi, if_neg hi]
      cases hk : t.kids[i.toNat]? with
      | none => rfl
      | some kk =>
        simp only [Option.isSome_map]
        exact get_repl_some
theorem edit_law {d : Nat} {t u : Tree} {ps : List Int} (hs : Small d t) : (t.getR ps).2.2 = (Tree.replR t ps u).2 ∧ ((Tree.replR t ps u).2 = true → ∃ a c, t.text = a ++ ((t.getR ps).1.text ++ c) ∧ (Tree.replR t ps u).1.text = a ++ (u.text ++ c) ∧ (t.getR ps).2.1 = (a.length : Int)) := by
  have h0 := get_repl_some (u := u) (ps := ps) (t := t) (p := 0)
  unfold getR Tree.replR
  cases hg : t.get ps 0 with
  | none =>
    rw [hg] at h0
    cases hr : Tree.repl t ps u with
    | none => exact ⟨rfl, fun h => by cases h⟩
    | some v => rw [hr] at h0; cases h0
  | some x =>
    rw [hg] at h0
    cases hr : Tree.repl t ps u with
    | none => rw [hr] at h0; cases h0
    | some v =>
      obtain ⟨a, c, h1, h2, h3⟩ := get_repl_text (k := x.1) (q := x.2) hs hg hr
      exact ⟨rfl, fun _ => ⟨a, c, h1, h2, by show (x.2 : Int) = _; omega⟩⟩
end Tree
theorem edit_one {s a b c x : List UInt8} (h : s = a ++ (b ++ c)) : soundE s.length [⟨(a.length : Int), (a.length : Int) + (b.length : Int), x⟩] = 0 ∧ applyGo s 0 [⟨(a.length : Int), (a.length : Int) + (b.length : Int), x⟩] = a ++ (x ++ c) := by
  subst h
  constructor
  · unfold soundE
    rw [if_neg (by simp), sound1, if_neg (by simp only [List.length_append]; omega), if_neg (by simp only; omega), sound1]
  · have e1 : ((a.length : Int) + (b.length : Int)).toNat = (a ++ b).length := by rw [List.length_append]; omega
    simp only [applyGo, Int.toNat_natCast, List.drop_zero, e1]
    rw [List.take_left, ← List.append_assoc a b c, List.drop_left]
end Go.GL
