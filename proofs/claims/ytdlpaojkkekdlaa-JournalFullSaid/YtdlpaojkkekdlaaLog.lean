/- A logic of private blocks and lasting facts over the machine's code: the state of a walk is a list of slots, a list of owned blocks and a list of facts. No condition; over every program. -/
import Derived.TacticsIn
import Derived.Laws.AppendOwn
import Derived.RangeFuncIn
namespace Go.GL

abbrev Wd (r : Option Nat) : Fence := { fn := fun _ => True, depth := none, alive := false, round := r }

/-! ### What is owned, what lasts -/
structure Evo (w : World) (K : List Nat) (w' : World) (K' : List Nat) : Prop where
  os : w'.os = w.os
  tape : w'.tape = w.tape
  output : w'.output = w.output
  size : w.heap.size ≤ w'.heap.size
  same : ∀ b, b < w.heap.size → b ∉ K → w'.heap[b]? = w.heap[b]?
  keys : ∀ b, b ∈ K' → b ∈ K ∨ w.heap.size ≤ b

theorem Evo.refl (w : World) (K : List Nat) : Evo w K w K := ⟨rfl, rfl, rfl, Nat.le_refl _, fun _ _ _ => rfl, fun _ h => .inl h⟩
theorem Evo.trans {w K w' K' w'' K''} (h : Evo w K w' K') (h' : Evo w' K' w'' K'') : Evo w K w'' K'' :=
  ⟨h'.os.trans h.os, h'.tape.trans h.tape, h'.output.trans h.output, Nat.le_trans h.size h'.size,
   fun b hb hn => (h'.same b (Nat.lt_of_lt_of_le hb h.size) (fun hk => by rcases h.keys b hk with h1 | h1; exact hn h1; omega)).trans (h.same b hb hn),
   fun b hb => by
    rcases h'.keys b hb with h1 | h1
    · exact h.keys b h1
    · exact .inr (Nat.le_trans h.size h1)⟩

structure Fact where
  p : World → List Nat → Prop
  mono : ∀ {w K w' K'}, p w K → Evo w K w' K' → p w' K'

structure HP where
  p : World → List Nat → Prop
  loc : ∀ {w w' : World} {K}, p w K → (∀ b, b ∈ K → w'.heap[b]? = w.heap[b]?) → p w' K
  lt : ∀ {w K}, p w K → ∀ b, b ∈ K → b < w.heap.size

/-- the blocks of the list, one part behind the other -/
def Own (w : World) : List HP → List Nat → Prop
  | [], K => K = []
  | r :: M, K => ∃ K1 K2, K = K1 ++ K2 ∧ r.p w K1 ∧ Own w M K2

def FAll (F : List Fact) (w : World) (K : List Nat) : Prop := ∀ φ, φ ∈ F → φ.p w K

def St (w : World) (M : List HP) (F : List Fact) : Prop := ∃ K, Own w M K ∧ K.Nodup ∧ FAll F w K

theorem Own.loc {w w' : World} : ∀ {M : List HP} {K : List Nat}, Own w M K → (∀ b, b ∈ K → w'.heap[b]? = w.heap[b]?) → Own w' M K
  | [], _, h, _ => h
  | r :: M, K, ⟨K1, K2, e, h1, h2⟩, hs => by
    subst e
    exact ⟨K1, K2, rfl, r.loc h1 fun b hb => hs b (by simp [hb]), Own.loc h2 fun b hb => hs b (by simp [hb])⟩
theorem Own.lt {w : World} : ∀ {M : List HP} {K : List Nat}, Own w M K → ∀ b, b ∈ K → b < w.heap.size
  | [], _, h, b, hb => by rw [show _ = _ from h] at hb; cases hb
  | r :: M, K, ⟨K1, K2, e, h1, h2⟩, b, hb => by
    subst e
    rcases List.mem_append.1 hb with h | h
    · exact r.lt h1 b h
    · exact Own.lt h2 b h
theorem FAll.mono {F : List Fact} {w w' : World} {K K' : List Nat} (h : FAll F w K) (e : Evo w K w' K') : FAll F w' K' := fun φ hφ => φ.mono (h φ hφ) e

theorem Own.append {w : World} : ∀ {M M' : List HP} {K : List Nat}, Own w (M ++ M') K ↔ ∃ K1 K2, K = K1 ++ K2 ∧ Own w M K1 ∧ Own w M' K2
  | [], M', K => ⟨fun h => ⟨[], K, rfl, rfl, h⟩, fun ⟨K1, K2, e, h1, h2⟩ => by rw [show K1 = [] from h1] at e; subst e; exact h2⟩
  | r :: M, M', K => by
    constructor
    · rintro ⟨K1, K2, e, h1, h2⟩
      obtain ⟨K3, K4, e', h3, h4⟩ := Own.append.1 h2
      subst e; subst e'
      exact ⟨K1 ++ K3, K4, by simp, ⟨K1, K3, rfl, h1, h3⟩, h4⟩
    · rintro ⟨K1, K2, e, ⟨K3, K4, e', h3, h4⟩, h2⟩
      subst e; subst e'
      exact ⟨K3, K4 ++ K2, by simp, h3, Own.append.2 ⟨K4, K2, rfl, h4, h2⟩⟩

theorem Own.perm {w : World} {M M' : List HP} (h : M.Perm M') : ∀ {K}, Own w M K → ∃ K', Own w M' K' ∧ K.Perm K' := by
  induction h with
  | nil => exact fun {K} h => ⟨K, h, .refl _⟩
  | cons r _ ih =>
    rintro K ⟨K1, K2, e, h1, h2⟩
    obtain ⟨K', h', p⟩ := ih h2
    subst e
    exact ⟨K1 ++ K', ⟨K1, K', rfl, h1, h'⟩, p.append_left K1⟩
  | swap r s l =>
    rintro K ⟨K1, K2, e, h1, K3, K4, e', h3, h4⟩
    subst e; subst e'
    refine ⟨K3 ++ (K1 ++ K4), ⟨K3, _, rfl, h3, K1, K4, rfl, h1, h4⟩, ?_⟩
    rw [← List.append_assoc, ← List.append_assoc]
    exact List.perm_append_comm.append_right _
  | trans _ _ ih1 ih2 =>
    intro K h
    obtain ⟨K', h', p⟩ := ih1 h
    obtain ⟨K'', h'', p'⟩ := ih2 h'
    exact ⟨K'', h'', p.trans p'⟩

theorem Evo.permK {w K K'} (h : K.Perm K') : Evo w K w K' := ⟨rfl, rfl, rfl, Nat.le_refl _, fun _ _ _ => rfl, fun _ hb => .inl (h.mem_iff.2 hb)⟩

theorem St.perm {w M M' F} (h : St w M F) (p : M.Perm M') : St w M' F := by
  obtain ⟨K, ho, hn, hf⟩ := h
  obtain ⟨K', ho', hp⟩ := ho.perm p
  exact ⟨K', ho', hp.nodup_iff.1 hn, hf.mono (.permK hp)⟩
theorem St.tail {w r M F} (h : St w (r :: M) F) : St w M F := by
  obtain ⟨K, ⟨K1, K2, e, _, h2⟩, hn, hf⟩ := h
  subst e
  exact ⟨K2, h2, (List.nodup_append.1 hn).2.1, hf.mono ⟨rfl, rfl, rfl, Nat.le_refl _, fun _ _ _ => rfl, fun b hb => .inl (by simp [hb])⟩⟩
theorem St.facts {w M F F'} (h : St w M F) (hs : ∀ φ, φ ∈ F' → φ ∈ F) : St w M F' := by
  obtain ⟨K, ho, hn, hf⟩ := h
  exact ⟨K, ho, hn, fun φ hφ => hf φ (hs φ hφ)⟩
theorem St.derive {w M F} (h : St w M F) {ψ : Fact} (hd : ∀ K, FAll F w K → ψ.p w K) : St w M (ψ :: F) := by
  obtain ⟨K, ho, hn, hf⟩ := h
  refine ⟨K, ho, hn, fun φ hφ => ?_⟩
  rcases List.mem_cons.1 hφ with e | e
  · subst e; exact hd K hf
  · exact hf φ e
theorem perm_front {r : HP} : ∀ {M : List HP} {i : Nat}, M[i]? = some r → M.Perm (r :: M.eraseIdx i)
  | s :: M, 0, h => by simp at h; subst h; simp
  | s :: M, i + 1, h => by
    have := perm_front (M := M) (i := i) (by simpa using h)
    simpa using (this.cons s).trans (.swap _ _ _)
theorem perm_set {r r' : HP} : ∀ {M : List HP} {i : Nat}, M[i]? = some r → (r' :: M.eraseIdx i).Perm (M.set i r')
  | s :: M, 0, _ => by simp
  | s :: M, i + 1, h => by
    have := perm_set (r' := r') (M := M) (i := i) (by simpa using h)
    simpa using (List.Perm.swap _ _ _).trans (this.cons s)
theorem St.front {w M F r} {i : Nat} (h : St w M F) (hi : M[i]? = some r) : St w (r :: M.eraseIdx i) F := h.perm (perm_front hi)
theorem St.back {w : World} {M : List HP} {F : List Fact} {r r' : HP} {i : Nat} (hi : M[i]? = some r) (h : St w (r' :: M.eraseIdx i) F) : St w (M.set i r') F := h.perm (perm_set hi)
theorem St.drop {w M F r} (i : Nat) (h : St w M F) (hi : M[i]? = some r) : St w (M.eraseIdx i) F := (h.front hi).tail

/-- ONE PART OF WHAT IS OWNED IS TURNED (and blocks may be new): the rest and the facts stay. -/
theorem St.turn {w w' : World} {r r' : HP} {M : List HP} {F : List Fact} (h : St w (r :: M) F) (os : w'.os = w.os) (tape : w'.tape = w.tape) (output : w'.output = w.output) (size : w.heap.size ≤ w'.heap.size)
    (ht : ∀ K, r.p w K → ∃ K', r'.p w' K' ∧ K'.Nodup ∧ (∀ b, b ∈ K' → b ∈ K ∨ w.heap.size ≤ b) ∧ (∀ b, b < w.heap.size → b ∉ K → w'.heap[b]? = w.heap[b]?)) : St w' (r' :: M) F := by
  obtain ⟨K, ⟨K1, K2, e, h1, h2⟩, hn, hf⟩ := h
  subst e
  obtain ⟨K', h', hn', hk, hs⟩ := ht K1 h1
  obtain ⟨n1, n2, n3⟩ := List.nodup_append.1 hn
  refine ⟨K' ++ K2, ⟨K', K2, rfl, h', h2.loc fun b hb => hs b (h2.lt b hb) fun hb1 => n3 b hb1 b hb rfl⟩, ?_, ?_⟩
  · refine List.nodup_append.2 ⟨hn', n2, fun a ha b hb => ?_⟩
    rintro rfl
    rcases hk a ha with h | h
    · exact n3 a h a hb rfl
    · have := h2.lt a hb; omega
  · refine hf.mono ⟨os, tape, output, size, fun b hb hnb => hs b hb fun h => hnb (by simp [h]), fun b hb => ?_⟩
    rcases List.mem_append.1 hb with h | h
    · rcases hk b h with h | h
      · exact .inl (by simp [h])
      · exact .inr h
    · exact .inl (by simp [h])
/-- nothing owned turns; blocks may be new -/
theorem St.grow {w w' : World} {M : List HP} {F : List Fact} (h : St w M F) (os : w'.os = w.os) (tape : w'.tape = w.tape) (output : w'.output = w.output) (size : w.heap.size ≤ w'.heap.size)
    (hs : ∀ b, b < w.heap.size → w'.heap[b]? = w.heap[b]?) : St w' M F := by
  obtain ⟨K, ho, hn, hf⟩ := h
  exact ⟨K, ho.loc fun b hb => hs b (ho.lt b hb), hn, hf.mono ⟨os, tape, output, size, fun b hb _ => hs b hb, fun b hb => .inl hb⟩⟩
/-- a new part -/
theorem St.new {w w' : World} {r' : HP} {M : List HP} {F : List Fact} (h : St w M F) (os : w'.os = w.os) (tape : w'.tape = w.tape) (output : w'.output = w.output) (size : w.heap.size ≤ w'.heap.size)
    (hs : ∀ b, b < w.heap.size → w'.heap[b]? = w.heap[b]?) {K' : List Nat} (h' : r'.p w' K') (hn' : K'.Nodup) (hk : ∀ b, b ∈ K' → w.heap.size ≤ b) : St w' (r' :: M) F := by
  obtain ⟨K, ho, hn, hf⟩ := h
  refine ⟨K' ++ K, ⟨K', K, rfl, h', ho.loc fun b hb => hs b (ho.lt b hb)⟩, List.nodup_append.2 ⟨hn', hn, fun a ha b hb => ?_⟩, hf.mono ⟨os, tape, output, size, fun b hb _ => hs b hb, fun b hb => ?_⟩⟩
  · rintro rfl; have := hk a ha; have := ho.lt a hb; omega
  · rcases List.mem_append.1 hb with h | h
    · exact .inr (hk b h)
    · exact .inl h

/-! ### A block that is known whole -/
def Pts (b : Nat) (o : Obj) : HP where
  p w K := K = [b] ∧ w.heap[b]? = some o
  loc := fun ⟨h1, h2⟩ hs => ⟨h1, (hs b (by simp [h1])).trans h2⟩
  lt := fun ⟨h1, h2⟩ c hc => by
    subst h1
    simp at hc
    subst hc
    exact (Array.getElem?_eq_some_iff.1 h2).1
/-- a block of cells, none frozen -/
abbrev Box (b : Nat) (t : TypeId) (cs : List Value) : HP := Pts b (.cells cs.toArray t (0, 0))

theorem St.heap {w M F b o} {i : Nat} (h : St w M F) (hi : M[i]? = some (Pts b o)) : w.heap[b]? = some o := by
  obtain ⟨K, ⟨K1, K2, e, h1, h2⟩, hn, hf⟩ := h.front hi
  exact h1.2
theorem St.alloc {w M F} (h : St w M F) (o : Obj) : St (w.alloc o) (Pts w.heap.size o :: M) F :=
  h.new rfl rfl rfl (by simp) (fun b hb => heap_alloc_old w o b hb) (K' := [w.heap.size]) ⟨rfl, heap_alloc_new w o⟩ (by simp) (by simp)
theorem St.drew {w M F} (h : St w M F) : St w.drew M F := h.grow rfl rfl rfl (Nat.le_refl _) fun _ _ => rfl
theorem St.putHeap {w w' M F b o o'} {i : Nat} (h : St w M F) (hi : M[i]? = some (Pts b o)) (os : w'.os = w.os) (tape : w'.tape = w.tape) (output : w'.output = w.output) (size : w'.heap.size = w.heap.size)
    (h1 : w'.heap[b]? = some o') (hs : ∀ c, c ≠ b → w'.heap[c]? = w.heap[c]?) : St w' (M.set i (Pts b o')) F :=
  St.back hi ((h.front hi).turn os tape output (by omega) fun K ⟨hK, _⟩ => ⟨[b], ⟨rfl, h1⟩, by simp, fun c hc => .inl (by rw [hK]; exact hc), fun c _ hc => hs c (by rw [hK] at hc; simpa using hc)⟩)
theorem St.setCell {w M F b t cs} {i : Nat} (h : St w M F) (hi : M[i]? = some (Box b t cs)) (k : Nat) (v : Value) :
    St (w.setCell ⟨b, k, none⟩ v) (M.set i (Box b t (cs.set k v))) F := by
  have hb := h.heap hi
  refine h.putHeap hi rfl rfl rfl (by simp) ?_ fun c hc => heap_setCell_other w _ c v hc
  simp [World.setCell, Array.getElem?_modify, hb]

end Go.GL
