/- Trees of a program's nodes: the plain functions, and what it means that a value in memory is a tree. -/
import Derived.Test.YtdlpaojkkekdlaaIter
namespace Go.GL
/-- a text as a value -/
abbrev S (l : List UInt8) : Value := .string ⟨l.toArray⟩
abbrev I (n : Int) : Value := .int .i64 n
theorem S_size (l : List UInt8) : (⟨l.toArray⟩ : ByteArray).size = l.length := by simp [ByteArray.size]

inductive Tree where
  | node (id kind : Int) (text : List UInt8) (kids : List Tree)

namespace Tree
def id : Tree → Int | .node i _ _ _ => i
def kind : Tree → Int | .node _ k _ _ => k
def txt : Tree → List UInt8 | .node _ _ t _ => t
def kids : Tree → List Tree | .node _ _ _ ks => ks
def isLeaf (t : Tree) : Bool := decide (0 ≤ t.kind) && decide (t.kind ≤ 8)

mutual
/-- all nodes in preorder -/
def pre : Tree → List Tree
  | .node i k t ks => .node i k t ks :: preAll ks
def preAll : List Tree → List Tree
  | [] => []
  | t :: ts => pre t ++ preAll ts
end
def depthOf : Nat → List Nat → Nat
  | m, [] => m
  | m, x :: xs => depthOf (max m x) xs
mutual
def depth : Tree → Nat
  | .node _ _ _ ks => depthAll 0 ks + 1
def depthAll (m : Nat) : List Tree → Nat
  | [] => m
  | t :: ts => depthAll (max m (depth t)) ts
end
/-- the text that syntax.Text makes: of the nodes of a leaf's kind, wherever they stand -/
def leafText (t : Tree) : List UInt8 := if t.isLeaf then t.txt else []
def textOf (l : List Tree) : List UInt8 := l.flatMap leafText
def text (t : Tree) : List UInt8 := textOf (pre t)
def width (t : Tree) : Nat := t.text.length

theorem textOf_snoc (pre : List Tree) (x : Tree) : textOf (pre ++ [x]) = textOf pre ++ leafText x := by simp [textOf]
theorem textOf_parts {xs pre suf : List Tree} {x : Tree} (h : xs = pre ++ x :: suf) : (textOf xs).length = (textOf pre).length + (leafText x).length + (textOf suf).length := by
  subst h
  simp [textOf]
  omega
theorem leafText_T {x : Tree} (h : (decide (0 ≤ x.kind) && decide (x.kind ≤ 8)) = true) : leafText x = x.txt := by rw [leafText, isLeaf, h]; rfl
theorem leafText_F {x : Tree} (h : (decide (0 ≤ x.kind) && decide (x.kind ≤ 8)) = false) : leafText x = [] := by rw [leafText, isLeaf, h]; rfl
theorem preAll_append (a b : List Tree) : preAll (a ++ b) = preAll a ++ preAll b := by
  induction a with
  | nil => simp [preAll]
  | cons x a ih => simp [preAll, ih]
theorem pre_eq (t : Tree) : t.pre = t :: preAll t.kids := by cases t; simp [pre, kids]
theorem self_mem_pre (t : Tree) : t ∈ t.pre := by rw [pre_eq]; simp
end Tree

/-! ### Memory -/
/-- the cells of a row of n cells at an address, in blocks that last -/
def CellsAt (w : World) (K : List Nat) (b off : Nat) (cs : List Value) : Prop :=
  b ∉ K ∧ b < w.heap.size ∧ ∀ j v, cs[j]? = some v → w.cell? ⟨b, off + j, none⟩ = some v
theorem CellsAt.mono {w w' K K' b off cs} (h : CellsAt w K b off cs) (e : Evo w K w' K') : CellsAt w' K' b off cs := by
  obtain ⟨h1, h2, h3⟩ := h
  have hs := e.same b h2 h1
  refine ⟨fun hk => ?_, Nat.lt_of_lt_of_le h2 e.size, fun j v hv => ?_⟩
  · rcases e.keys b hk with h | h
    · exact h1 h
    · omega
  · rw [World.cell?_of_block (w := w) (by exact hs)]
    exact h3 j v hv

mutual
/-- in w, clear of the blocks K, the value v is the tree t -/
def TreeAt (w : World) (K : List Nat) : Tree → Value → Prop
  | .node i k t ks, v => ∃ a len cap, v = .agg #[I i, I k, S t, .slice a len cap] ∧ len = ks.length ∧ len ≤ cap ∧ cap ≤ maxLen ∧ (len = 0 ∨ ∃ b off, a = some ⟨b, off, none⟩ ∧ KidsAt w K b off ks)
def KidsAt (w : World) (K : List Nat) (b off : Nat) : List Tree → Prop
  | [] => True
  | t :: ts => (∃ cs : List Value, CellsAt w K b off cs ∧ TreeAt w K t (.agg cs.toArray)) ∧ KidsAt w K b (off + 4) ts
end

mutual
theorem TreeAt.mono {w w' K K'} (e : Evo w K w' K') : ∀ {t : Tree} {v : Value}, TreeAt w K t v → TreeAt w' K' t v
  | .node i k t ks, v, h => by
    simp only [TreeAt] at h ⊢
    obtain ⟨a, len, cap, h1, h2, h3, h4, h5⟩ := h
    refine ⟨a, len, cap, h1, h2, h3, h4, ?_⟩
    rcases h5 with h | ⟨b, off, h5, h6⟩
    · exact .inl h
    · exact .inr ⟨b, off, h5, KidsAt.mono e h6⟩
theorem KidsAt.mono {w w' K K'} (e : Evo w K w' K') : ∀ {ts : List Tree} {b off : Nat}, KidsAt w K b off ts → KidsAt w' K' b off ts
  | [], _, _, _ => by simp only [KidsAt]
  | t :: ts, b, off, h => by
    simp only [KidsAt] at h ⊢
    obtain ⟨⟨cs, h1, h2⟩, h3⟩ := h
    exact ⟨⟨cs, h1.mono e, TreeAt.mono e h2⟩, KidsAt.mono e h3⟩
end
def TreeF (t : Tree) (v : Value) : Fact := ⟨fun w K => TreeAt w K t v, fun h e => h.mono e⟩
def KidsF (b off : Nat) (ts : List Tree) : Fact := ⟨fun w K => KidsAt w K b off ts, fun h e => h.mono e⟩
/-- a block's cells, for good -/
def CellsF (b off : Nat) (cs : List Value) : Fact := ⟨fun w K => CellsAt w K b off cs, fun h e => h.mono e⟩

theorem KidsAt.get {w K} : ∀ {ts : List Tree} {b off i : Nat} {t : Tree}, KidsAt w K b off ts → ts[i]? = some t → ∃ cs : List Value, CellsAt w K b (off + i * 4) cs ∧ TreeAt w K t (.agg cs.toArray)
  | u :: ts, b, off, 0, t, h, hi => by
    simp only [KidsAt] at h
    simp at hi
    subst hi
    exact h.1
  | u :: ts, b, off, i + 1, t, h, hi => by
    simp only [KidsAt] at h
    have := KidsAt.get (i := i) h.2 (by simpa using hi)
    rw [show off + (i + 1) * 4 = off + 4 + i * 4 from by omega]
    exact this

theorem run_loadCellsAt {P : Program} {w K b off t} {cs : List Value} (h : CellsAt w K b off cs) (ht : tyAgg P t cs.length = true) : Reads P w t ⟨b, off, none⟩ (.agg cs.toArray) :=
  run_loadVar_agg ht rfl fun j v hv => by rw [addr_add]; exact h.2.2 j v hv
theorem run_loadCell1 {P : Program} {w K b off t} {cs : List Value} {j : Nat} {v : Value} (h : CellsAt w K b off cs) (ht : tyScalar P t = true) (hj : cs[j]? = some v) : Reads P w t ⟨b, off + j, none⟩ v :=
  run_loadVar_scalar ht (h.2.2 j v hj)

/-- what is owned is let go: it lasts as it is -/
theorem St.keep {w M F b t} {cs : List Value} (h : St w (Box b t cs :: M) F) : St w M (CellsF b 0 cs :: F) := by
  obtain ⟨K, ⟨K1, K2, e, ⟨h1, hb⟩, h2⟩, hn, hf⟩ := h
  subst h1; subst e
  obtain ⟨_, n2, n3⟩ := List.nodup_append.1 hn
  have hnb : b ∉ K2 := fun hb2 => n3 b (by simp) b hb2 rfl
  have hlt := (Array.getElem?_eq_some_iff.1 hb).1
  refine ⟨K2, h2, n2, fun φ hφ => ?_⟩
  rcases List.mem_cons.1 hφ with e | e
  · subst e
    exact ⟨hnb, hlt, fun j v hv => by rw [Nat.zero_add, cell_of_box hb]; exact hv⟩
  · exact φ.mono (hf φ e) ⟨rfl, rfl, rfl, Nat.le_refl _, fun _ _ _ => rfl, fun c hc => .inl (by simp [hc])⟩
/-- a node's value -/
theorem TreeAt.shape {w K t v} (h : TreeAt w K t v) : ∃ a len cap, v = .agg #[I t.id, I t.kind, S t.txt, .slice a len cap] ∧ len = t.kids.length ∧ len ≤ cap ∧ cap ≤ maxLen := by
  cases t with
  | node i k t ks =>
    simp only [TreeAt] at h
    obtain ⟨a, len, cap, h1, h2, h3, h4, _⟩ := h
    exact ⟨a, len, cap, h1, h2, h3, h4⟩
theorem TreeAt.kids {w K t a len cap c0 c1 c2} (h : TreeAt w K t (.agg #[c0, c1, c2, .slice a len cap])) : len = 0 ∨ ∃ b off, a = some ⟨b, off, none⟩ ∧ KidsAt w K b off t.kids := by
  cases t with
  | node i k t ks =>
    simp only [TreeAt] at h
    obtain ⟨a', len', cap', h1, h2, h3, h4, h5⟩ := h
    simp at h1
    obtain ⟨_, _, _, rfl, rfl, rfl⟩ := h1
    exact h5
/-! ### A node's value, and its kids -/
abbrev nodeC (t : Tree) (a : Option Addr) (len cap : Nat) : List Value := [I t.id, I t.kind, S t.txt, .slice a len cap]
abbrev nodeV (t : Tree) (a : Option Addr) (len cap : Nat) : Value := .agg (nodeC t a len cap).toArray
def KidsO (w : World) (K : List Nat) (a : Option Addr) (ks : List Tree) : Prop := ks = [] ∨ ∃ b off, a = some ⟨b, off, none⟩ ∧ KidsAt w K b off ks
def KidsOF (a : Option Addr) (ks : List Tree) : Fact := ⟨fun w K => KidsO w K a ks, fun h e => by
  rcases h with h | ⟨b, off, h1, h2⟩
  · exact .inl h
  · exact .inr ⟨b, off, h1, h2.mono e⟩⟩
/-- the cells of a struct handed over alone -/
def argCells : List Value → List Value
  | [.agg ⟨cs⟩] => cs
  | _ => []
structure KidX where
  b : Nat
  off : Nat
  a : Option Addr
  len : Nat
  cap : Nat
theorem St.fact {w M F} {φ : Fact} (h : St w M F) (hφ : φ ∈ F) : ∃ K, φ.p w K := by
  obtain ⟨K, _, _, hf⟩ := h
  exact ⟨K, hf φ hφ⟩
theorem open_node {M F} {t : Tree} {a : Option Addr} {len cap : Nat} (hF : TreeF t (nodeV t a len cap) ∈ F) : ∀ w, St w M F → (len = t.kids.length ∧ len ≤ cap ∧ cap ≤ 9223372036854775807) ∧ St w M (KidsOF a t.kids :: F) := by
  intro w hw
  have key : ∀ K, TreeAt w K t (nodeV t a len cap) → (len = t.kids.length ∧ len ≤ cap ∧ cap ≤ 9223372036854775807) ∧ KidsO w K a t.kids := by
    intro K h
    cases t with
    | node i k tx ks =>
      simp only [TreeAt] at h
      obtain ⟨a', len', cap', h1, h2, h3, h4, h5⟩ := h
      simp at h1
      obtain ⟨_, _, _, rfl, rfl, rfl⟩ := h1
      refine ⟨⟨h2, h3, h4⟩, ?_⟩
      rcases h5 with h5 | h5
      · exact .inl (List.eq_nil_of_length_eq_zero (by rw [h5] at h2; exact h2.symm))
      · exact .inr h5
  obtain ⟨K, hK⟩ := hw.fact hF
  exact ⟨(key K hK).1, hw.derive fun K hf => (key K (hf _ hF)).2⟩
theorem open_kid {M F} {a : Option Addr} {ks : List Tree} {i : Nat} {t : Tree} (hF : KidsOF a ks ∈ F) (hi : ks[i]? = some t) :
    ∀ w, St w M F → ∃ x : KidX, a = some ⟨x.b, x.off, none⟩ ∧ St w M (CellsF x.b (x.off + i * 4) (nodeC t x.a x.len x.cap) :: TreeF t (nodeV t x.a x.len x.cap) :: F) := by
  intro w hw
  obtain ⟨K, ho, hn, hf⟩ := hw
  rcases hf _ hF with h0 | ⟨b, off, h1, h2⟩
  · rw [h0] at hi; simp at hi
  · obtain ⟨cs, hc, ht⟩ := h2.get hi
    obtain ⟨a', len, cap, hv, _⟩ := ht.shape
    simp only [Value.agg.injEq] at hv
    have hcs : cs = nodeC t a' len cap := by simpa using hv
    subst hcs
    refine ⟨⟨b, off, a', len, cap⟩, h1, K, ho, hn, fun φ hφ => ?_⟩
    rcases List.mem_cons.1 hφ with e | hφ
    · subst e; exact hc
    · rcases List.mem_cons.1 hφ with e | hφ
      · subst e; exact ht
      · exact hf φ hφ
theorem Tree.kid_lt {t k : Tree} (h : k ∈ t.kids) : SizeOf.sizeOf k < SizeOf.sizeOf t := by
  cases t with
  | node i kd tx ks =>
    have := List.sizeOf_lt_of_mem (show k ∈ ks from h)
    simp only [Tree.node.sizeOf_spec]
    omega
end Go.GL
