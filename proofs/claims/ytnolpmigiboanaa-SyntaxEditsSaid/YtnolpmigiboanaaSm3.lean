/- Paths and what lies at them: plain laws. No condition; over every program. -/
import Derived.Test.YtnolpmigiboanaaSm2
namespace Go.GL
namespace Tree
theorem pathAll_find : ∀ {ks : List Tree} {o : Nat} (j : Int), o < (ks.flatMap text).length → ∃ (i : Nat) (h : i < ks.length), ((ks.take i).flatMap text).length ≤ o ∧ o - ((ks.take i).flatMap text).length < ks[i].width ∧ pathAll j ks o = (j + i) :: ks[i].path (o - ((ks.take i).flatMap text).length)
  | [], o, j, h => by simp at h
  | k :: ks, o, j, h => by
    by_cases hk : o < k.width
    · exact ⟨0, by simp, by simp, by simpa using hk, by rw [pathAll, if_pos hk]; simp⟩
    · have hw : k.width = k.text.length := rfl
      obtain ⟨i, hi, h1, h2, h3⟩ := pathAll_find (ks := ks) (o := o - k.width) (j + 1) (by rw [List.flatMap_cons, List.length_append] at h; omega)
      have e : (((k :: ks).take (i + 1)).flatMap text).length = k.width + ((ks.take i).flatMap text).length := by
        rw [List.take_succ_cons, List.flatMap_cons, List.length_append]; rfl
      refine ⟨i + 1, by simp; omega, by rw [e]; omega, ?_, ?_⟩
      · rw [e, ← Nat.sub_sub]; simpa using h2
      · rw [pathAll, if_neg hk, h3, e, ← Nat.sub_sub]
        congr 1
        omega
theorem flat_get {ks : List Tree} {i x : Nat} (h : i < ks.length) (hx : x < ks[i].width) : (ks.flatMap text)[((ks.take i).flatMap text).length + x]? = ks[i].text[x]? := by
  have e : ks.flatMap text = (ks.take i).flatMap text ++ (ks[i].text ++ (ks.drop (i + 1)).flatMap text) := by
    conv => lhs; rw [← List.take_append_drop i ks, List.drop_eq_getElem_cons h]
    rw [List.flatMap_append, List.flatMap_cons]
  rw [e, List.getElem?_append_right (by omega), Nat.add_sub_cancel_left, List.getElem?_append_left hx]
/-- the node at a path that Path makes is a leaf that holds the byte -/
theorem path_get {d : Nat} : ∀ {t : Tree} {o : Nat}, Small d t → o < t.width → ∃ (k : Tree) (q : Nat), (∀ p, t.get (t.path o) p = some (k, p + q)) ∧ k.isLeaf = true ∧ k.kids = [] ∧ q ≤ o ∧ o < q + k.txt.length ∧ t.text[o]? = k.txt[o - q]? := by
  induction d with
  | zero => intro t o h; exact h.elim
  | succ d ih =>
    intro t o h ho
    cases hl : t.isLeaf with
    | true =>
      have ⟨h1, h2⟩ := h.leaf hl
      refine ⟨t, 0, fun p => by rw [path_leaf hl, get]; rfl, hl, h1, Nat.zero_le _, by rw [← h2, Nat.zero_add]; exact ho, by rw [h2]; rfl⟩
    | false =>
      have ho' : o < (t.kids.flatMap text).length := by rw [← inner_text hl]; exact ho
      obtain ⟨i, hi, h1, h2, h3⟩ := pathAll_find (ks := t.kids) 0 ho'
      obtain ⟨k, q, g1, g2, g3, g4, g5, g6⟩ := ih (h.kid (List.getElem_mem hi)) h2
      refine ⟨k, ((t.kids.take i).flatMap text).length + q, fun p => ?_, g2, g3, by omega, by omega, ?_⟩
      · rw [path_inner hl, h3, Int.zero_add, get_in hi, g1, Nat.add_assoc]
      · have := flat_get hi h2
        rw [show ((t.kids.take i).flatMap text).length + (o - ((t.kids.take i).flatMap text).length) = o from by omega, g6] at this
        rw [inner_text hl, this, Nat.sub_sub]
theorem toks_get2 {l : List Tree} {k : Nat} (h : k < l.length) : (toks 0 l)[k * 3 + 2]? = some (I (((l.take k).flatMap txt).length : Nat)) := by
  have := toks_at (p := 0) h 2 (I ((0 + ((l.take k).flatMap txt).length : Nat))) rfl
  rwa [Nat.zero_add] at this
end Tree
end Go.GL
