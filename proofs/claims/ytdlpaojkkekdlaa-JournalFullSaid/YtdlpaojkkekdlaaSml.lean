/- Small trees, paths in trees, trees laid cell by cell: plain laws. No condition; over every program. -/
import Derived.Test.YtdlpaojkkekdlaaDrw2
namespace Go.GL
namespace Tree
/-- of at most d levels, four kids each, leaves without kids and of at most eight bytes -/
def Small : Nat → Tree → Prop
  | 0, _ => False
  | d + 1, t => t.txt.length ≤ 8 ∧ t.kids.length ≤ 4 ∧ (t.isLeaf = true → t.kids = []) ∧ ∀ k, k ∈ t.kids → Small d k
theorem textOf_append (a b : List Tree) : textOf (a ++ b) = textOf a ++ textOf b := by simp [textOf]
theorem text_eq (t : Tree) : t.text = leafText t ++ t.kids.flatMap text := by
  rw [text, pre_eq]
  show leafText t ++ textOf (preAll t.kids) = _
  congr 1
  induction t.kids with
  | nil => rfl
  | cons k ks ih => rw [preAll, textOf_append, ih, List.flatMap_cons]; rfl
theorem Small.leaf {d : Nat} {t : Tree} (h : Small d t) (hl : t.isLeaf = true) : t.kids = [] ∧ t.text = t.txt := by
  cases d with
  | zero => exact h.elim
  | succ d =>
    have hk := h.2.2.1 hl
    refine ⟨hk, ?_⟩
    rw [text_eq, hk, leafText, if_pos hl]
    simp
theorem inner_text {t : Tree} (hl : t.isLeaf = false) : t.text = t.kids.flatMap text := by
  rw [text_eq, leafText, hl]
  rfl
theorem Small.kid {d : Nat} {t : Tree} (h : Small (d + 1) t) {k : Tree} (hk : k ∈ t.kids) : Small d k := h.2.2.2 k hk
theorem Small.mono {d : Nat} : ∀ {t : Tree} {e : Nat}, Small d t → d ≤ e → Small e t := by
  induction d with
  | zero => intro t e h; exact h.elim
  | succ d ih =>
    intro t e h he
    cases e with
    | zero => omega
    | succ e => exact ⟨h.1, h.2.1, h.2.2.1, fun k hk => ih (h.2.2.2 k hk) (by omega)⟩
theorem flat_le {ks : List Tree} {n m : Nat} (hl : ks.length ≤ n) (h : ∀ k, k ∈ ks → k.text.length ≤ m) : (ks.flatMap text).length ≤ n * m := by
  have : (ks.flatMap text).length ≤ ks.length * m := by
    clear hl
    induction ks with
    | nil => simp
    | cons k ks ih =>
      have h1 := ih fun x hx => h x (.tail _ hx)
      have h2 := h k (.head _)
      rw [List.flatMap_cons, List.length_append, List.length_cons, Nat.add_mul]
      omega
  exact Nat.le_trans this (Nat.mul_le_mul_right _ hl)
theorem Small.width {d : Nat} : ∀ {t : Tree}, Small d t → t.width ≤ 8 * 4 ^ d := by
  induction d with
  | zero => intro t h; exact h.elim
  | succ d ih =>
    intro t h
    unfold Tree.width
    cases hl : t.isLeaf with
    | true =>
      rw [(h.leaf hl).2]
      have := h.1
      have : 0 < 4 ^ (d + 1) := Nat.pow_pos (by omega)
      omega
    | false =>
      rw [inner_text hl]
      have := flat_le h.2.1 fun k hk => ih (h.kid hk)
      rw [Nat.pow_succ]
      omega
theorem preAll_le {ks : List Tree} {n m : Nat} (hl : ks.length ≤ n) (h : ∀ k, k ∈ ks → k.pre.length ≤ m) : (preAll ks).length ≤ n * m := by
  have : (preAll ks).length ≤ ks.length * m := by
    clear hl
    induction ks with
    | nil => simp [preAll]
    | cons k ks ih =>
      have h1 := ih fun x hx => h x (.tail _ hx)
      have h2 := h k (.head _)
      rw [preAll, List.length_append, List.length_cons, Nat.add_mul]
      omega
  exact Nat.le_trans this (Nat.mul_le_mul_right _ hl)
theorem Small.count {d : Nat} : ∀ {t : Tree}, Small d t → 3 * t.pre.length + 1 ≤ 4 ^ d := by
  induction d with
  | zero => intro t h; exact h.elim
  | succ d ih =>
    intro t h
    rw [pre_eq, List.length_cons, Nat.pow_succ]
    have : (preAll t.kids).length ≤ 4 * ((4 ^ d - 1) / 3) := preAll_le h.2.1 fun k hk => by have := ih (h.kid hk); omega
    have hp : 0 < 4 ^ d := Nat.pow_pos (by omega)
    by_cases h0 : t.kids = []
    · rw [h0, preAll]; simp; omega
    · have : 0 < d := by
        cases d with
        | zero =>
          cases hk : t.kids with
          | nil => exact absurd hk h0
          | cons k ks => exact (h.kid (k := k) (by rw [hk]; simp)).elim
        | succ d => omega
      omega
theorem pow_le6 {d : Nat} (h : d ≤ 8) : 4 ^ d ≤ 65536 := Nat.le_trans (Nat.pow_le_pow_right (by omega) h) (by decide)
theorem Small.width6 {d : Nat} {t : Tree} (h : Small d t) (hd : d ≤ 8) : t.width ≤ 524288 := by
  have := h.width; have := pow_le6 hd; omega
theorem Small.count6 {d : Nat} {t : Tree} (h : Small d t) (hd : d ≤ 8) : t.pre.length ≤ 65536 := by
  have := h.count; have := pow_le6 hd; omega
/-! ### Paths -/
mutual
def path : Tree → Nat → List Int
  | .node i k t ks, o => if (node i k t ks).isLeaf then [] else pathAll 0 ks o
def pathAll (i : Int) : List Tree → Nat → List Int
  | [], _ => []
  | k :: ks, o => if o < k.width then i :: path k o else pathAll (i + 1) ks (o - k.width)
end
theorem path_leaf {t : Tree} {o : Nat} (h : t.isLeaf = true) : t.path o = [] := by
  cases t; rw [path, if_pos h]
theorem path_inner {t : Tree} {o : Nat} (h : t.isLeaf = false) : t.path o = pathAll 0 t.kids o := by
  cases t; rw [path, if_neg (by simp [h])]; rfl
def pathL (t : Tree) (o : Int) : List Int := if 0 ≤ o ∧ o < t.width then t.path o.toNat else []
def pathOk (t : Tree) (o : Int) : Bool := decide (0 ≤ o ∧ o < t.width)
theorem flat_drop {ks : List Tree} {i : Nat} (h : i < ks.length) : ((ks.drop i).flatMap text).length = ks[i].width + ((ks.drop (i + 1)).flatMap text).length := by
  rw [List.drop_eq_getElem_cons h, List.flatMap_cons, List.length_append]; rfl
theorem pathAll_in {ks : List Tree} {i o : Nat} (h : i < ks.length) (ho : o < ks[i].width) (j : Int) : pathAll j (ks.drop i) o = j :: ks[i].path o := by
  rw [List.drop_eq_getElem_cons h, pathAll, if_pos ho]
theorem pathAll_out {ks : List Tree} {i o : Nat} (h : i < ks.length) (ho : ¬ o < ks[i].width) (j : Int) : pathAll j (ks.drop i) o = pathAll (j + 1) (ks.drop (i + 1)) (o - ks[i].width) := by
  rw [List.drop_eq_getElem_cons h, pathAll, if_neg ho]
end Tree
open Tree
/-! ### Trees laid cell by cell -/
def TreesAt (w : World) (K : List Nat) : List Tree → List Value → Prop
  | [], cs => cs = []
  | t :: ts, cs => ∃ a len cap rest, cs = nodeC t a len cap ++ rest ∧ TreeAt w K t (nodeV t a len cap) ∧ TreesAt w K ts rest
theorem TreesAt.mono {w w' K K'} (e : Evo w K w' K') : ∀ {ts : List Tree} {cs : List Value}, TreesAt w K ts cs → TreesAt w' K' ts cs
  | [], _, h => h
  | _ :: _, _, ⟨a, len, cap, rest, h1, h2, h3⟩ => ⟨a, len, cap, rest, h1, h2.mono e, h3.mono e⟩
def TreesF (ts : List Tree) (cs : List Value) : Fact := ⟨fun w K => TreesAt w K ts cs, fun h e => h.mono e⟩
theorem TreesAt.append {w K} : ∀ {ts us : List Tree} {cs ds : List Value}, TreesAt w K ts cs → TreesAt w K us ds → TreesAt w K (ts ++ us) (cs ++ ds)
  | [], us, cs, ds, h, h2 => by rw [show cs = [] from h]; exact h2
  | t :: ts, us, cs, ds, ⟨a, len, cap, rest, h1, h2, h3⟩, h4 => ⟨a, len, cap, rest ++ ds, by rw [h1, List.append_assoc], h2, h3.append h4⟩
theorem TreesAt.one {w K} {t : Tree} {a : Option Addr} {len cap : Nat} (h : TreeAt w K t (nodeV t a len cap)) : TreesAt w K [t] (nodeC t a len cap) := ⟨a, len, cap, [], by simp, h, rfl⟩
theorem TreesAt.length {w K} : ∀ {ts : List Tree} {cs : List Value}, TreesAt w K ts cs → cs.length = ts.length * 4
  | [], cs, h => by rw [show cs = [] from h]; rfl
  | t :: ts, cs, ⟨a, len, cap, rest, h1, _, h3⟩ => by
    rw [h1, List.length_append, h3.length, List.length_cons]
    simp
    omega
theorem TreesAt.one1 {w K} : ∀ {ts : List Tree} {cs : List Value}, TreesAt w K ts cs → cs.all Value.oneCell' = true
  | [], cs, h => by rw [show cs = [] from h]; rfl
  | t :: ts, cs, ⟨a, len, cap, rest, h1, _, h3⟩ => by
    rw [h1, List.all_append, h3.one1]; rfl
theorem TreesAt.kids {w K b off} : ∀ {ts : List Tree} {cs : List Value} {o : Nat}, TreesAt w K ts cs → b ∉ K → b < w.heap.size → (∀ j v, cs[j]? = some v → w.cell? ⟨b, off + o + j, none⟩ = some v) → KidsAt w K b (off + o) ts
  | [], cs, o, h, _, _, _ => by simp only [KidsAt]
  | t :: ts, cs, o, ⟨a, len, cap, rest, h1, h2, h3⟩, hb, hl, hc => by
    simp only [KidsAt]
    refine ⟨⟨nodeC t a len cap, ⟨hb, hl, fun j v hv => hc j v (by rw [h1, List.getElem?_append_left (List.getElem?_eq_some_iff.1 hv).1]; exact hv)⟩, h2⟩, ?_⟩
    rw [Nat.add_assoc]
    refine h3.kids (o := o + 4) hb hl fun j v hv => ?_
    have := hc (4 + j) v (by rw [h1, List.getElem?_append_right (by simp)]; simpa using hv)
    rw [show off + (o + 4) + j = off + o + (4 + j) from by omega]
    exact this
/-- a node, out of the row of its kids -/
theorem tree_of {w : World} {K : List Nat} {t : Tree} {oa : Option Addr} {cap : Nat} {cs : List Value} (ha : ArrAt w K oa cs) (ht : TreesAt w K t.kids cs) (hc : t.kids.length ≤ cap) (hm : cap ≤ maxLen) : TreeAt w K t (nodeV t oa t.kids.length cap) := by
  cases t with
  | node i k tx ks =>
    simp only [TreeAt]
    refine ⟨oa, ks.length, cap, rfl, rfl, hc, hm, ?_⟩
    have hl : cs.length = ks.length * 4 := TreesAt.length ht
    rcases ha with h | ⟨b, off, h1, h2⟩
    · rw [h] at hl
      have : ks.length * 4 = 0 := by simpa using hl.symm
      exact .inl (by omega)
    · exact .inr ⟨b, off, h1, TreesAt.kids (o := 0) ht h2.1 h2.2.1 fun j v hv => h2.2.2 j v hv⟩
theorem St.ownCap {w : World} {M : List HP} {F : List Fact} {e size n cap : Nat} {oa : Option Addr} {xs : List Value} (h : St w (OwnSl e size oa n cap xs :: M) F) : cap ≤ maxLen := by
  obtain ⟨K, ⟨K1, K2, _, h1, _⟩, _⟩ := h
  rcases h1.1.2 with ⟨hv, h0⟩ | ⟨g, c, cur, hv, _, _, hc, hm, _⟩
  · simp only [Value.slice.injEq] at hv; rw [hv.2.2]; exact Nat.zero_le _
  · simp only [Value.slice.injEq] at hv; rw [hv.2.2]; exact hm
/-- the row of kids is let go: the node lasts -/
theorem St.treeSl {w : World} {M : List HP} {F : List Fact} {n cap : Nat} {oa : Option Addr} {cs : List Value} (t : Tree) {e : TypeId} (h : St w (OwnSl e 4 oa n cap cs :: M) F) (hF : TreesF t.kids cs ∈ F) : n = t.kids.length ∧ St w M (TreeF t (nodeV t oa n cap) :: F) := by
  have h1 := h.ownLen
  have h2 := h.ownCap
  have h3 : n = t.kids.length := by
    obtain ⟨K, hK⟩ := h.fact hF
    have := TreesAt.length hK
    omega
  subst h3
  refine ⟨rfl, ?_⟩
  obtain ⟨K, ho, hn, hf⟩ := h.keepSl
  refine ⟨K, ho, hn, fun φ hφ => ?_⟩
  rcases List.mem_cons.1 hφ with ee | ee
  · subst ee
    exact tree_of (hf _ (.head _)) (hf _ (.tail _ hF)) h1.2 h2
  · exact hf φ (.tail _ ee)
theorem trees_len {w : World} {M : List HP} {F : List Fact} {ts : List Tree} {cs : List Value} (h : St w M F) (hF : TreesF ts cs ∈ F) : cs.length = ts.length * 4 := by
  obtain ⟨K, hK⟩ := h.fact hF
  exact TreesAt.length hK
theorem src_trees {w : World} {M : List HP} {F : List Fact} {ts : List Tree} {cs : List Value} (h : St w M F) (hF : TreesF ts cs ∈ F) : cs.all Value.oneCell' = true := by
  obtain ⟨K, hK⟩ := h.fact hF
  exact TreesAt.one1 hK
theorem St.addFact {w : World} {M : List HP} {F : List Fact} (φ : Fact) (h : St w M F) (hd : ∀ K, FAll F w K → φ.p w K) : St w M (φ :: F) := h.derive hd
theorem St.trees0 {w : World} {M : List HP} {F : List Fact} (h : St w M F) : St w M (TreesF [] [] :: F) := h.addFact (TreesF [] []) fun _ _ => rfl
theorem St.trees1 {w : World} {M : List HP} {F : List Fact} {ts : List Tree} {cs : List Value} {t : Tree} {a : Option Addr} {len cap : Nat} (h : St w M F) (h1 : TreesF ts cs ∈ F) (h2 : TreeF t (nodeV t a len cap) ∈ F) : St w M (TreesF (ts ++ [t]) (cs ++ nodeC t a len cap) :: F) :=
  h.addFact _ fun _ hf => TreesAt.append (hf _ h1) (TreesAt.one (hf _ h2))
/-- a slice that is not empty has a place -/
theorem open_arr {M F} {oa : Option Addr} {xs : List Value} (hF : ArrF oa xs ∈ F) (h0 : xs ≠ []) : ∀ w, St w M F → ∃ x : Nat × Nat, oa = some ⟨x.1, x.2, none⟩ ∧ St w M (CellsF x.1 x.2 xs :: F) := by
  intro w hw
  obtain ⟨K, ho, hn, hf⟩ := hw
  rcases hf _ hF with h | ⟨b, off, h1, h2⟩
  · exact absurd h h0
  · refine ⟨(b, off), h1, K, ho, hn, fun φ hφ => ?_⟩
    rcases List.mem_cons.1 hφ with e | hφ
    · subst e; exact h2
    · exact hf φ hφ
/-- a list of ints in memory -/
abbrev ints (xs : List Int) : List Value := xs.map I
theorem ints_get {xs : List Int} {i : Nat} (h : i < xs.length) : (ints xs)[i]? = some (I xs[i]) := by simp [h]
theorem ints_ne {xs : List Int} (h : 0 < xs.length) : ints xs ≠ [] := by
  cases xs with
  | nil => simp at h
  | cons x xs => simp
theorem ints_one (xs : List Int) : (ints xs).all Value.oneCell' = true := by simp [Value.oneCell']
theorem take_succ_ne {xs ys : List Int} {k : Nat} (h1 : k < xs.length) (h2 : k < ys.length) (h : xs[k] ≠ ys[k]) : xs ≠ ys := fun e => by subst e; exact h rfl
theorem take_all_eq {xs ys : List Int} {k : Nat} (h : xs.take k = ys.take k) (hk : ¬ k < xs.length) (hl : xs.length = ys.length) : xs = ys := by
  rw [List.take_of_length_le (by omega), List.take_of_length_le (by omega)] at h; exact h
theorem take_step {xs ys : List Int} {k : Nat} (h : xs.take k = ys.take k) (h1 : k < xs.length) (h2 : k < ys.length) (e : xs[k] = ys[k]) : xs.take (k + 1) = ys.take (k + 1) := by
  rw [List.take_succ_eq_append_getElem h1, List.take_succ_eq_append_getElem h2, h, e]
/-! ### Leaves and their tokens -/
namespace Tree
def lv (t : Tree) : List Tree := t.pre.filter isLeaf
theorem lv_eq (t : Tree) : t.lv = (if t.isLeaf then [t] else []) ++ t.kids.flatMap lv := by
  rw [lv, pre_eq]
  have : (preAll t.kids).filter isLeaf = t.kids.flatMap lv := by
    induction t.kids with
    | nil => rfl
    | cons k ks ih => rw [preAll, List.filter_append, ih, List.flatMap_cons]; rfl
  rw [List.filter_cons, this]
  split <;> rfl
theorem Small.lv_leaf {d : Nat} {t : Tree} (h : Small d t) (hl : t.isLeaf = true) : t.lv = [t] := by
  rw [lv_eq, (h.leaf hl).1, if_pos hl]; rfl
theorem lv_inner {t : Tree} (hl : t.isLeaf = false) : t.lv = t.kids.flatMap lv := by
  rw [lv_eq, hl]; rfl
theorem textOf_filter (l : List Tree) : textOf l = (l.filter isLeaf).flatMap txt := by
  induction l with
  | nil => rfl
  | cons x l ih =>
    rw [List.filter_cons, textOf, List.flatMap_cons]
    rw [textOf] at ih
    rw [ih, leafText]
    split <;> simp [*]
theorem text_lv (t : Tree) : t.text = t.lv.flatMap txt := textOf_filter _
theorem lvs_text (ks : List Tree) : (ks.flatMap lv).flatMap txt = ks.flatMap text := by
  induction ks with
  | nil => rfl
  | cons k ks ih => rw [List.flatMap_cons, List.flatMap_append, ih, List.flatMap_cons, text_lv]
theorem lv_le (t : Tree) : t.lv.length ≤ t.pre.length := List.length_filter_le _ _
def toks : Nat → List Tree → List Value
  | _, [] => []
  | p, l :: ls => I l.kind :: S l.txt :: I p :: toks (p + l.txt.length) ls
theorem toks_append : ∀ (a b : List Tree) (p : Nat), toks p (a ++ b) = toks p a ++ toks (p + (a.flatMap txt).length) b
  | [], b, p => by simp [toks]
  | x :: a, b, p => by
    rw [List.cons_append, toks, toks, toks_append a b, List.flatMap_cons, List.length_append, Nat.add_assoc]; rfl
theorem toks_length : ∀ (a : List Tree) (p : Nat), (toks p a).length = a.length * 3
  | [], p => rfl
  | x :: a, p => by rw [toks, List.length_cons, List.length_cons, List.length_cons, toks_length a, List.length_cons]; omega
theorem toks_one : ∀ (a : List Tree) (p : Nat), (toks p a).all Value.oneCell' = true
  | [], p => rfl
  | x :: a, p => by rw [toks]; simp only [List.all_cons, toks_one a, Value.oneCell']; rfl
theorem take_flat {β : Type} {f : Tree → List β} {ks : List Tree} {k : Nat} (h : k < ks.length) : ((ks.take (k + 1)).flatMap f) = (ks.take k).flatMap f ++ f ks[k] := by
  rw [List.take_succ_eq_append_getElem h, List.flatMap_append]; simp
theorem take_flat_le {β : Type} (f : Tree → List β) (ks : List Tree) (k : Nat) : ((ks.take k).flatMap f).length ≤ (ks.flatMap f).length := by
  conv => rhs; rw [← List.take_append_drop k ks, List.flatMap_append, List.length_append]
  omega
theorem toks_step {ks : List Tree} {k p : Nat} (h : k < ks.length) : toks p ((ks.take (k + 1)).flatMap lv) = toks p ((ks.take k).flatMap lv) ++ toks (p + ((ks.take k).flatMap text).length) ks[k].lv := by
  rw [take_flat h, toks_append, lvs_text]
/-- what is known of the first k kids and the next -/
theorem kid_bounds {d : Nat} {t : Tree} (hs : Small d t) (hd : d ≤ 8) (hl : t.isLeaf = false) {k : Nat} (h : k < t.kids.length) :
    ((t.kids.take k).flatMap text).length + t.kids[k].width = ((t.kids.take (k + 1)).flatMap text).length ∧ ((t.kids.take (k + 1)).flatMap text).length ≤ t.width ∧ t.width ≤ 524288 ∧
    ((t.kids.take k).flatMap lv).length + t.kids[k].lv.length = ((t.kids.take (k + 1)).flatMap lv).length ∧ ((t.kids.take (k + 1)).flatMap lv).length ≤ 65536 := by
  refine ⟨?_, ?_, hs.width6 hd, ?_, ?_⟩
  · rw [take_flat h, List.length_append]; rfl
  · have := take_flat_le text t.kids (k + 1); rw [Tree.width, inner_text hl]; exact this
  · rw [take_flat h, List.length_append]
  · have h1 := take_flat_le lv t.kids (k + 1)
    rw [← lv_inner hl] at h1
    have h2 := lv_le t
    have h3 := hs.count6 hd
    omega
end Tree
namespace Tree
theorem toks_get1 : ∀ {l : List Tree} {p k : Nat} (h : k < l.length), (toks p l)[k * 3 + 1]? = some (S l[k].txt)
  | x :: l, p, 0, h => rfl
  | x :: l, p, k + 1, h => by
    have := toks_get1 (l := l) (p := p + x.txt.length) (k := k) (by simpa using h)
    rw [toks, show (k + 1) * 3 + 1 = (k * 3 + 1) + 1 + 1 + 1 from by omega]
    simpa using this
theorem toks_ne {l : List Tree} {p : Nat} (h : 0 < l.length) : toks p l ≠ [] := by
  cases l with
  | nil => simp at h
  | cons x l => simp [toks]
theorem pathL_out {t : Tree} {o : Int} (h : ¬ (0 ≤ o ∧ o < t.width)) : pathL t o = [] ∧ pathOk t o = false := ⟨if_neg h, decide_eq_false h⟩
theorem pathL_in {t : Tree} {o : Int} (h : 0 ≤ o ∧ o < t.width) : pathL t o = t.path o.toNat ∧ pathOk t o = true := ⟨if_pos h, decide_eq_true h⟩
mutual
theorem path_length : ∀ (t : Tree) (o : Nat), (t.path o).length + 1 ≤ t.pre.length
  | .node i k tx ks, o => by
    rw [path, pre]
    split
    · simp
    · have := pathAll_length 0 ks o
      simp; omega
theorem pathAll_length : ∀ (i : Int) (ks : List Tree) (o : Nat), (pathAll i ks o).length ≤ (preAll ks).length
  | i, [], o => by simp [pathAll]
  | i, k :: ks, o => by
    have h1 := path_length k o
    have h2 := pathAll_length (i + 1) ks (o - k.width)
    have h3 : 0 < k.pre.length := by rw [pre_eq]; simp
    rw [pathAll, preAll, List.length_append]
    split
    · simp; omega
    · omega
end
theorem Small.pathL_length {d : Nat} {t : Tree} {o : Int} (h : Small d t) : 3 * (pathL t o).length + 1 ≤ 4 ^ d := by
  have h1 := h.count
  unfold pathL
  split
  · have := path_length t o.toNat; omega
  · have : 0 < 4 ^ d := Nat.pow_pos (by omega)
    simp; omega
theorem Small.pathL6 {d : Nat} {t : Tree} {o : Int} (h : Small d t) (hd : d ≤ 8) : (pathL t o).length ≤ 65536 := by
  have := h.pathL_length (o := o)
  have := pow_le6 hd
  omega
end Tree
theorem St.arr0 {w : World} {M : List HP} {F : List Fact} (h : St w M F) : St w M (ArrF none [] :: F) := h.addFact (ArrF none []) fun _ _ => .inl rfl
theorem Tree.Small.kid_any {d : Nat} {t : Tree} (h : Small d t) {k : Tree} (hk : k ∈ t.kids) : Small d k := by
  cases d with
  | zero => exact h.elim
  | succ d => exact (h.kid hk).mono (by omega)
theorem Tree.kid_bounds' {d : Nat} {t : Tree} (hs : Small d t) (hd : d ≤ 8) (hl : t.isLeaf = false) {k : Nat} (h : k < t.kids.length) :
    ((t.kids.take k).flatMap text).length + t.kids[k].width = ((t.kids.take (k + 1)).flatMap text).length ∧ ((t.kids.take (k + 1)).flatMap text).length ≤ t.width ∧ t.width ≤ 524288 :=
  have := kid_bounds hs hd hl h
  ⟨this.1, this.2.1, this.2.2.1⟩
theorem RL.neg {P : Program} {r : Option Nat} {N : Nat} {ops : Array Oper} {rest : List Oper} {Q : Exit → Act → World → Prop} {E : Env} {ds : List Deferred} {M : List HP} {F : List Fact} {d : Nat} {ty : TypeId} {pos : String} {aft : Array Edge} {gd : Option (Nat × Bool)}
    {t : TypeId} {x : Operand} {n : Int} (hg : wantedG ops E gd = some true) (hx : evalO E x = some (I n)) (h0 : -9223372036854775808 ≤ -n) (h1 : -n ≤ 9223372036854775807) (hN : Nat.ble (d + 1) N = true) (k : RL P r N ops rest Q ((d, I (-n)) :: E) ds M F) : RL P r N ops (⟨some d, .unOp .neg t x, ty, pos, aft, gd⟩ :: rest) Q E ds M F :=
  RL.val rfl hg hN (fun ρ hρ w _ => by simp [execOp, hρ _ _ hx, Op.unary, Op.intArith, wrap64_id h0 h1]) k
/-- what stands ahead may be set aside, one part being the call's -/
theorem Ctr.frame1 {P : Program} {f : FuncId} {args : List Value} {F : List Fact} {ι : Type} {val : ι → Value} {F' : ι → List Fact} (L : List HP) {p : HP} {Mi : List HP} {p' : ι → HP}
    (h : Ctr P f args (p :: (L ++ Mi)) F ι val (fun i => p' i :: (L ++ Mi)) F') : Ctr P f args (L ++ p :: Mi) F ι val (fun i => L ++ p' i :: Mi) F' :=
  Ctr.frame (J := [p]) (J' := fun i => [p' i]) L h
namespace Tree
theorem depthAll_append (a b : List Tree) : ∀ m, depthAll m (a ++ b) = depthAll (depthAll m a) b := by
  induction a with
  | nil => intro m; rfl
  | cons x a ih => intro m; rw [List.cons_append, depthAll, depthAll, ih]
theorem depth_eq (t : Tree) : t.depth = depthAll 0 t.kids + 1 := by cases t; rw [depth]; rfl
theorem depthAll_step {ks : List Tree} {k : Nat} (h : k < ks.length) : depthAll 0 (ks.take (k + 1)) = max (depthAll 0 (ks.take k)) ks[k].depth := by
  rw [List.take_succ_eq_append_getElem h, depthAll_append]; rfl
theorem depthAll_le {ks : List Tree} {d : Nat} (h : ∀ k, k ∈ ks → k.depth ≤ d) : ∀ m, m ≤ d → depthAll m ks ≤ d := by
  induction ks with
  | nil => intro m hm; exact hm
  | cons x a ih => intro m hm; rw [depthAll]; exact ih (fun k hk => h k (.tail _ hk)) _ (by have := h x (.head _); omega)
theorem Small.depth {d : Nat} : ∀ {t : Tree}, Small d t → t.depth ≤ d := by
  induction d with
  | zero => intro t h; exact h.elim
  | succ d ih =>
    intro t h
    rw [depth_eq]
    have := depthAll_le (fun k hk => ih (h.kid hk)) 0 (Nat.zero_le _)
    omega
end Tree
/-- a tree and where it lies -/
structure TX where
  t : Tree
  a : Option Addr
  len : Nat
  cap : Nat
abbrev TX.v (x : TX) : Value := nodeV x.t x.a x.len x.cap
abbrev TX.c (x : TX) : List Value := nodeC x.t x.a x.len x.cap
theorem St.leafT {w : World} {M : List HP} {F : List Fact} (i k : Int) (tx : List UInt8) (h : St w M F) : St w M (TreeF (.node i k tx []) (nodeV (.node i k tx []) none 0 0) :: F) :=
  h.addFact _ fun K _ => tree_of (t := .node i k tx []) (cap := 0) (cs := []) (.inl rfl) rfl (Nat.le_refl _) (Nat.zero_le _)
theorem St.boxTree {w : World} {M : List HP} {F : List Fact} {b e : Nat} {cs : List Value} (t : Tree) (hm : t.kids.length ≤ maxLen) (h : St w (Box b e cs :: M) F) (hF : TreesF t.kids cs ∈ F) : St w M (TreeF t (nodeV t (some ⟨b, 0, none⟩) t.kids.length t.kids.length) :: F) :=
  (St.treeSl t (St.boxSl (n := t.kids.length) (size := 4) (trees_len h hF) hm h) hF).2
theorem leaf_at {w : World} {K : List Nat} (i k : Int) (tx : List UInt8) : TreeAt w K (.node i k tx []) (nodeV (.node i k tx []) none 0 0) :=
  tree_of (t := .node i k tx []) (cap := 0) (cs := []) (.inl rfl) rfl (Nat.le_refl _) (Nat.zero_le _)
end Go.GL
