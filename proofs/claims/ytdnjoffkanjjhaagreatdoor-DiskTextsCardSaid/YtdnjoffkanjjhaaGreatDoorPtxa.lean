/- Lemmas and walks for the proof of TexJ: texts one behind the other. No condition. -/
import Derived.TacticsIn
import Derived.Laws.AppendOwn
import Derived.RangeFuncIn
import Derived.KernelRfl
import Derived.RangeFuncRecord
import Derived.Laws.OwnMore
import Derived.Lib.Strings
import Derived.Maps.AppendAt
import Derived.Lib.AppendStr
import Derived.Lib.Builder
import Derived.Lib.UnsafeStr
import Derived.Laws.Pointers
import Derived.ProofKit
import Derived.OpenShut
import Derived.CallsIn
import Derived.DataReads
import Derived.ChangeArms
import Derived.Carry
import Derived.Laws.BitsAllLaws
import Derived.Laws.BytesArg
import Derived.Lib.ConvBytes
import Derived.Test.YtdnjoffkanjjhaaGreatDoorChecked
set_option linter.unusedVariables false
set_option linter.unusedSimpArgs false
namespace Go.GL
abbrev Wd (r : Option Nat) : Fence := { fn := fun _ => True, depth := none, alive := false, round := r }
theorem al_new (w : World) (o : Obj) : (w.alloc o).heap[w.heap.size]? = some o := by
  show (w.heap.push o)[w.heap.size]? = some o
  simp
theorem al_old (w : World) (o : Obj) (b : Nat) (h : b < w.heap.size) : (w.alloc o).heap[b]? = w.heap[b]? := by
  show (w.heap.push o)[b]? = w.heap[b]?
  rw [Array.getElem?_push, if_neg (Nat.ne_of_lt h)]
structure Evo (w : World) (K : List Nat) (w' : World) (K' : List Nat) : Prop where
  os : w'.os = w.os
  tape : w'.tape = w.tape
  output : w'.output = w.output
  size : w.heap.size ≤ w'.heap.size
  same : ∀ b, b < w.heap.size → b ∉ K → w'.heap[b]? = w.heap[b]?
  keys : ∀ b, b ∈ K' → b ∈ K ∨ w.heap.size ≤ b
theorem Evo.refl (w : World) (K : List Nat) : Evo w K w K := ⟨rfl, rfl, rfl, Nat.le_refl _, fun _ _ _ => rfl, fun _ h => .inl h⟩
theorem Evo.trans {w K w' K' w'' K''} (h : Evo w K w' K') (h' : Evo w' K' w'' K'') : Evo w K w'' K'' :=
  ⟨h'.os.trans h.os, h'.tape.trans h.tape, h'.output.trans h.output, Nat.le_trans h.size h'.size,
   fun b hb hn => (h'.same b (Nat.lt_of_lt_of_le hb h.size) (fun hk => by rcases h.keys b hk with h1 | h1; exact hn h1; omega)).trans (h.same b hb hn),
   fun b hb => by
    rcases h'.keys b hb with h1 | h1
    · exact h.keys b h1
    · exact .inr (Nat.le_trans h.size h1)⟩
structure Fact where
  p : World → List Nat → Prop
  mono : ∀ {w K w' K'}, p w K → Evo w K w' K' → p w' K'
structure HP where
  p : World → List Nat → Prop
  loc : ∀ {w w' : World} {K}, p w K → (∀ b, b ∈ K → w'.heap[b]? = w.heap[b]?) → p w' K
  lt : ∀ {w K}, p w K → ∀ b, b ∈ K → b < w.heap.size
def Own (w : World) : List HP → List Nat → Prop
  | [], K => K = []
  | r :: M, K => ∃ K1 K2, K = K1 ++ K2 ∧ r.p w K1 ∧ Own w M K2
def FAll (F : List Fact) (w : World) (K : List Nat) : Prop := ∀ φ, φ ∈ F → φ.p w K
def St (w : World) (M : List HP) (F : List Fact) : Prop := ∃ K, Own w M K ∧ K.Nodup ∧ FAll F w K
theorem Own.loc {w w' : World} : ∀ {M : List HP} {K : List Nat}, Own w M K → (∀ b, b ∈ K → w'.heap[b]? = w.heap[b]?) → Own w' M K
  | [], _, h, _ => h
  | r :: M, K, ⟨K1, K2, e, h1, h2⟩, hs => by
    subst e
    exact ⟨K1, K2, rfl, r.loc h1 fun b hb => hs b (by simp [hb]), Own.loc h2 fun b hb => hs b (by simp [hb])⟩
theorem Own.lt {w : World} : ∀ {M : List HP} {K : List Nat}, Own w M K → ∀ b, b ∈ K → b < w.heap.size
  | [], _, h, b, hb => by rw [show _ = _ from h] at hb; cases hb
  | r :: M, K, ⟨K1, K2, e, h1, h2⟩, b, hb => by
    subst e
    rcases List.mem_append.1 hb with h | h
    · exact r.lt h1 b h
    · exact Own.lt h2 b h
theorem FAll.mono {F : List Fact} {w w' : World} {K K' : List Nat} (h : FAll F w K) (e : Evo w K w' K') : FAll F w' K' := fun φ hφ => φ.mono (h φ hφ) e
theorem Own.append {w : World} : ∀ {M M' : List HP} {K : List Nat}, Own w (M ++ M') K ↔ ∃ K1 K2, K = K1 ++ K2 ∧ Own w M K1 ∧ Own w M' K2
  | [], M', K => ⟨fun h => ⟨[], K, rfl, rfl, h⟩, fun ⟨K1, K2, e, h1, h2⟩ => by rw [show K1 = [] from h1] at e; subst e; exact h2⟩
  | r :: M, M', K => by
    constructor
    · rintro ⟨K1, K2, e, h1, h2⟩
      obtain ⟨K3, K4, e', h3, h4⟩ := Own.append.1 h2
      subst e; subst e'
      exact ⟨K1 ++ K3, K4, by simp, ⟨K1, K3, rfl, h1, h3⟩, h4⟩
    · rintro ⟨K1, K2, e, ⟨K3, K4, e', h3, h4⟩, h2⟩
      subst e; subst e'
      exact ⟨K3, K4 ++ K2, by simp, h3, Own.append.2 ⟨K4, K2, rfl, h4, h2⟩⟩
theorem Own.perm {w : World} {M M' : List HP} (h : M.Perm M') : ∀ {K}, Own w M K → ∃ K', Own w M' K' ∧ K.Perm K' := by
  induction h with
  | nil => exact fun {K} h => ⟨K, h, .refl _⟩
  | cons r _ ih =>
    rintro K ⟨K1, K2, e, h1, h2⟩
    obtain ⟨K', h', p⟩ := ih h2
    subst e
    exact ⟨K1 ++ K', ⟨K1, K', rfl, h1, h'⟩, p.append_left K1⟩
  | swap r s l =>
    rintro K ⟨K1, K2, e, h1, K3, K4, e', h3, h4⟩
    subst e; subst e'
    refine ⟨K3 ++ (K1 ++ K4), ⟨K3, _, rfl, h3, K1, K4, rfl, h1, h4⟩, ?_⟩
    rw [← List.append_assoc, ← List.append_assoc]
    exact List.perm_append_comm.append_right _
  | trans _ _ ih1 ih2 =>
    intro K h
    obtain ⟨K', h', p⟩ := ih1 h
    obtain ⟨K'', h'', p'⟩ := ih2 h'
    exact ⟨K'', h'', p.trans p'⟩
theorem Evo.permK {w K K'} (h : K.Perm K') : Evo w K w K' := ⟨rfl, rfl, rfl, Nat.le_refl _, fun _ _ _ => rfl, fun _ hb => .inl (h.mem_iff.2 hb)⟩
theorem St.perm {w M M' F} (h : St w M F) (p : M.Perm M') : St w M' F := by
  obtain ⟨K, ho, hn, hf⟩ := h
  obtain ⟨K', ho', hp⟩ := ho.perm p
  exact ⟨K', ho', hp.nodup_iff.1 hn, hf.mono (.permK hp)⟩
theorem St.tail {w r M F} (h : St w (r :: M) F) : St w M F := by
  obtain ⟨K, ⟨K1, K2, e, _, h2⟩, hn, hf⟩ := h
  subst e
  exact ⟨K2, h2, (List.nodup_append.1 hn).2.1, hf.mono ⟨rfl, rfl, rfl, Nat.le_refl _, fun _ _ _ => rfl, fun b hb => .inl (by simp [hb])⟩⟩
theorem St.facts {w M F F'} (h : St w M F) (hs : ∀ φ, φ ∈ F' → φ ∈ F) : St w M F' := by
  obtain ⟨K, ho, hn, hf⟩ := h
  exact ⟨K, ho, hn, fun φ hφ => hf φ (hs φ hφ)⟩
theorem St.derive {w M F} (h : St w M F) {ψ : Fact} (hd : ∀ K, FAll F w K → ψ.p w K) : St w M (ψ :: F) := by
  obtain ⟨K, ho, hn, hf⟩ := h
  refine ⟨K, ho, hn, fun φ hφ => ?_⟩
  rcases List.mem_cons.1 hφ with e | e
  · subst e; exact hd K hf
  · exact hf φ e
theorem perm_front {r : HP} : ∀ {M : List HP} {i : Nat}, M[i]? = some r → M.Perm (r :: M.eraseIdx i)
  | s :: M, 0, h => by simp at h; subst h; simp
  | s :: M, i + 1, h => by
    have := perm_front (M := M) (i := i) (by simpa using h)
    simpa using (this.cons s).trans (.swap _ _ _)
theorem perm_set {r r' : HP} : ∀ {M : List HP} {i : Nat}, M[i]? = some r → (r' :: M.eraseIdx i).Perm (M.set i r')
  | s :: M, 0, _ => by simp
  | s :: M, i + 1, h => by
    have := perm_set (r' := r') (M := M) (i := i) (by simpa using h)
    simpa using (List.Perm.swap _ _ _).trans (this.cons s)
theorem St.front {w M F r} {i : Nat} (h : St w M F) (hi : M[i]? = some r) : St w (r :: M.eraseIdx i) F := h.perm (perm_front hi)
theorem St.back {w : World} {M : List HP} {F : List Fact} {r r' : HP} {i : Nat} (hi : M[i]? = some r) (h : St w (r' :: M.eraseIdx i) F) : St w (M.set i r') F := h.perm (perm_set hi)
theorem St.drop {w M F r} (i : Nat) (h : St w M F) (hi : M[i]? = some r) : St w (M.eraseIdx i) F := (h.front hi).tail
theorem St.turn {w w' : World} {r r' : HP} {M : List HP} {F : List Fact} (h : St w (r :: M) F) (os : w'.os = w.os) (tape : w'.tape = w.tape) (output : w'.output = w.output) (size : w.heap.size ≤ w'.heap.size)
    (ht : ∀ K, r.p w K → ∃ K', r'.p w' K' ∧ K'.Nodup ∧ (∀ b, b ∈ K' → b ∈ K ∨ w.heap.size ≤ b) ∧ (∀ b, b < w.heap.size → b ∉ K → w'.heap[b]? = w.heap[b]?)) : St w' (r' :: M) F := by
  obtain ⟨K, ⟨K1, K2, e, h1, h2⟩, hn, hf⟩ := h
  subst e
  obtain ⟨K', h', hn', hk, hs⟩ := ht K1 h1
  obtain ⟨n1, n2, n3⟩ := List.nodup_append.1 hn
  refine ⟨K' ++ K2, ⟨K', K2, rfl, h', h2.loc fun b hb => hs b (h2.lt b hb) fun hb1 => n3 b hb1 b hb rfl⟩, ?_, ?_⟩
  · refine List.nodup_append.2 ⟨hn', n2, fun a ha b hb => ?_⟩
    rintro rfl
    rcases hk a ha with h | h
    · exact n3 a h a hb rfl
    · have := h2.lt a hb; omega
  · refine hf.mono ⟨os, tape, output, size, fun b hb hnb => hs b hb fun h => hnb (by simp [h]), fun b hb => ?_⟩
    rcases List.mem_append.1 hb with h | h
    · rcases hk b h with h | h
      · exact .inl (by simp [h])
      · exact .inr h
    · exact .inl (by simp [h])
theorem St.grow {w w' : World} {M : List HP} {F : List Fact} (h : St w M F) (os : w'.os = w.os) (tape : w'.tape = w.tape) (output : w'.output = w.output) (size : w.heap.size ≤ w'.heap.size)
    (hs : ∀ b, b < w.heap.size → w'.heap[b]? = w.heap[b]?) : St w' M F := by
  obtain ⟨K, ho, hn, hf⟩ := h
  exact ⟨K, ho.loc fun b hb => hs b (ho.lt b hb), hn, hf.mono ⟨os, tape, output, size, fun b hb _ => hs b hb, fun b hb => .inl hb⟩⟩
theorem St.new {w w' : World} {r' : HP} {M : List HP} {F : List Fact} (h : St w M F) (os : w'.os = w.os) (tape : w'.tape = w.tape) (output : w'.output = w.output) (size : w.heap.size ≤ w'.heap.size)
    (hs : ∀ b, b < w.heap.size → w'.heap[b]? = w.heap[b]?) {K' : List Nat} (h' : r'.p w' K') (hn' : K'.Nodup) (hk : ∀ b, b ∈ K' → w.heap.size ≤ b) : St w' (r' :: M) F := by
  obtain ⟨K, ho, hn, hf⟩ := h
  refine ⟨K' ++ K, ⟨K', K, rfl, h', ho.loc fun b hb => hs b (ho.lt b hb)⟩, List.nodup_append.2 ⟨hn', hn, fun a ha b hb => ?_⟩, hf.mono ⟨os, tape, output, size, fun b hb _ => hs b hb, fun b hb => ?_⟩⟩
  · rintro rfl; have := hk a ha; have := ho.lt a hb; omega
  · rcases List.mem_append.1 hb with h | h
    · exact .inr (hk b h)
    · exact .inl h
def Pts (b : Nat) (o : Obj) : HP where
  p w K := K = [b] ∧ w.heap[b]? = some o
  loc := fun ⟨h1, h2⟩ hs => ⟨h1, (hs b (by simp [h1])).trans h2⟩
  lt := fun ⟨h1, h2⟩ c hc => by
    subst h1
    simp at hc
    subst hc
    exact (Array.getElem?_eq_some_iff.1 h2).1
abbrev Box (b : Nat) (t : TypeId) (cs : List Value) : HP := Pts b (.cells cs.toArray t (0, 0))
theorem St.heap {w M F b o} {i : Nat} (h : St w M F) (hi : M[i]? = some (Pts b o)) : w.heap[b]? = some o := by
  obtain ⟨K, ⟨K1, K2, e, h1, h2⟩, hn, hf⟩ := h.front hi
  exact h1.2
theorem St.alloc {w M F} (h : St w M F) (o : Obj) : St (w.alloc o) (Pts w.heap.size o :: M) F :=
  h.new rfl rfl rfl (by simp) (fun b hb => Go.GL.al_old w o b hb) (K' := [w.heap.size]) ⟨rfl, Go.GL.al_new w o⟩ (by simp) (by simp)
theorem St.drew {w M F} (h : St w M F) : St w.drew M F := h.grow rfl rfl rfl (Nat.le_refl _) fun _ _ => rfl
theorem St.putHeap {w w' M F b o o'} {i : Nat} (h : St w M F) (hi : M[i]? = some (Pts b o)) (os : w'.os = w.os) (tape : w'.tape = w.tape) (output : w'.output = w.output) (size : w'.heap.size = w.heap.size)
    (h1 : w'.heap[b]? = some o') (hs : ∀ c, c ≠ b → w'.heap[c]? = w.heap[c]?) : St w' (M.set i (Pts b o')) F :=
  St.back hi ((h.front hi).turn os tape output (by omega) fun K ⟨hK, _⟩ => ⟨[b], ⟨rfl, h1⟩, by simp, fun c hc => .inl (by rw [hK]; exact hc), fun c _ hc => hs c (by rw [hK] at hc; simpa using hc)⟩)
theorem St.setCell {w M F b t cs} {i : Nat} (h : St w M F) (hi : M[i]? = some (Box b t cs)) (k : Nat) (v : Value) :
    St (w.setCell ⟨b, k, none⟩ v) (M.set i (Box b t (cs.set k v))) F := by
  have hb := h.heap hi
  refine h.putHeap hi rfl rfl rfl (by simp) ?_ fun c hc => heap_setCell_other w _ c v hc
  simp [World.setCell, Array.getElem?_modify, hb]
end Go.GL

namespace Go.GL
theorem beq_false {a b : Nat} (h : a ≠ b) : Nat.beq a b = false := by
  cases hb : Nat.beq a b with
  | false => rfl
  | true => exact absurd (Nat.eq_of_beq_eq_true hb) h
abbrev Env := List (Nat × Value)
def look : Env → Nat → Option Value
  | [], _ => none
  | (k, v) :: E, n => bif Nat.beq k n then some v else look E n
def evalO (E : Env) : Operand → Option Value
  | .tmp t => look E t
  | .const v => some v
  | .global g => some (.pointer (some ⟨g, 0, none⟩))
  | .func f => some (.func (.func f) #[] #[])
structure Sat (N : Nat) (E : Env) (ds : List Deferred) (a : Act) : Prop where
  size : N ≤ a.tmps.size
  defers : a.defers = ds
  get : ∀ k v, look E k = some v → a.tmps[k]? = some v
theorem Sat.eval {N E ds a} (h : Sat N E ds a) {o : Operand} {v : Value} (ho : evalO E o = some v) : a.eval o = v := by
  cases o with
  | tmp t => simp only [evalO] at ho; simp [Act.eval, h.get t v ho]
  | const v => simpa [evalO, Act.eval] using ho
  | global g => simpa [evalO, Act.eval] using ho
  | func f => simpa [evalO, Act.eval] using ho
theorem Sat.put {N E ds a} (h : Sat N E ds a) {d : Nat} (hd : Nat.ble (d + 1) N = true) (v : Value) : Sat N ((d, v) :: E) ds (a.put (some d) v) := by
  have hd' := Nat.le_of_ble_eq_true hd
  have hs := h.size
  refine ⟨by simpa [Act.put] using h.size, h.defers, fun k u hk => ?_⟩
  simp only [look] at hk
  by_cases e : d = k
  · subst e
    simp at hk
    subst hk
    simp only [Act.put, Array.getElem?_setIfInBounds, if_true]
    rw [if_pos (by omega)]
  · have : Nat.beq d k = false := beq_false e
    rw [this] at hk
    simp only [Act.put, Array.getElem?_setIfInBounds, e, if_false]
    exact h.get k u hk
def SubE (E : Env) : Env → Prop
  | [] => True
  | (k, v) :: E' => look E k = some v ∧ SubE E E'
theorem Sat.sub {N E ds a} (h : Sat N E ds a) : ∀ {E' : Env}, SubE E E' → Sat N E' ds a
  | [], _ => ⟨h.size, h.defers, fun k v hk => by cases hk⟩
  | (k, v) :: E', ⟨h1, h2⟩ => ⟨h.size, h.defers, fun n u hn => by
      simp only [look] at hn
      by_cases e : k = n
      · subst e
        simp at hn
        subst hn
        exact h.get _ _ h1
      · have : Nat.beq k n = false := beq_false e
        rw [this] at hn
        exact (h.sub h2).get n u hn⟩
def wantedG (ops : Array Oper) (E : Env) : Option (Nat × Bool) → Option Bool
  | none => some true
  | some (j, want) => match (ops[j]?).bind (·.dst) with
    | some t => match look E t with
      | some (.bool b) => some (b == want)
      | some (.tuple _) => some false
      | _ => none
    | none => none
theorem Sat.wanted {N E ds a} (h : Sat N E ds a) {ops : Array Oper} {o : Oper} {b : Bool} (hg : wantedG ops E o.guard = some b) : Region.wanted o (yielded ops a.tmps) = b := by
  unfold wantedG at hg
  unfold Region.wanted
  cases hq : o.guard with
  | none => rw [hq] at hg; simpa using hg
  | some x =>
    obtain ⟨j, want⟩ := x
    rw [hq] at hg
    simp only at hg ⊢
    cases hd : (ops[j]?).bind (·.dst) with
    | none => rw [hd] at hg; cases hg
    | some t =>
      rw [hd] at hg
      simp only at hg
      cases hl : look E t with
      | none => rw [hl] at hg; cases hg
      | some v =>
        rw [hl] at hg
        have ht := h.get t v hl
        cases v <;> simp_all [yielded]
def isDefer : Op → Bool
  | .defer _ => true
  | _ => false
def RL (P : Program) (r : Option Nat) (N : Nat) (ops : Array Oper) (rest : List Oper) (Q : Exit → Act → World → Prop) (E : Env) (ds : List Deferred) (M : List HP) (F : List Fact) : Prop :=
  ∀ a w, Sat N E ds a → St w M F → wpListIn (Wd r) 0 P ops Q rest a w
def TR (P : Program) (r : Option Nat) (N : Nat) (c : Code) (Q : Exit → Act → World → Prop) (E : Env) (ds : List Deferred) (M : List HP) (F : List Fact) : Prop :=
  ∀ a w, Sat N E ds a → St w M F → c.wpIn (Wd r) 0 P Q a w
def NX (N : Nat) (e : Exit) (Q : Exit → Act → World → Prop) (E : Env) (ds : List Deferred) (M : List HP) (F : List Fact) : Prop :=
  ∀ a w, Sat N E ds a → St w M F → Q e a w
section
variable {P : Program} {r : Option Nat} {N : Nat} {ops : Array Oper} {rest : List Oper} {Q : Exit → Act → World → Prop} {E : Env} {ds : List Deferred} {M : List HP} {F : List Fact}
theorem semAt_plain (ρ : Operand → Value) (o : Oper) (h : isDefer o.op = false) : Oper.semAt r ρ o = execOp ρ o :=
  Oper.semAt_eq r ρ o fun c e => by rw [e] at h; cases h
theorem RL.step {o : Oper} (hnd : isDefer o.op = false) (hg : wantedG ops E o.guard = some true)
    (h : ∀ a w, Sat N E ds a → St w M F → o.uponIn (Wd r) 0 P a (wpListIn (Wd r) 0 P ops Q rest) Q ((execOp a.eval o).run P w)) : RL P r N ops (o :: rest) Q E ds M F := fun a w ha hw => by
  unfold wpListIn
  rw [ha.wanted hg, if_pos rfl]
  refine ⟨fun _ _ => trivial, ?_⟩
  rw [semAt_plain (r := (Wd r).round) a.eval o hnd]
  exact h a w ha hw
theorem RL.skip {o : Oper} {d : Nat} (hd : o.dst = some d) (hN : Nat.ble (d + 1) N = true) (hg : wantedG ops E o.guard = some false) (k : RL P r N ops rest Q ((d, undef) :: E) ds M F) : RL P r N ops (o :: rest) Q E ds M F := fun a w ha hw => by
  unfold wpListIn
  rw [ha.wanted hg, if_neg (by simp), hd]
  exact ⟨fun _ _ => trivial, k _ w (ha.put hN _) hw⟩
theorem RL.nil (h : NX N .normal Q E ds M F) : RL P r N ops [] Q E ds M F := h
theorem RL.facts {F' : List Fact} (hs : ∀ φ, φ ∈ F' → φ ∈ F) (h : RL P r N ops rest Q E ds M F') : RL P r N ops rest Q E ds M F := fun a w ha hw => h a w ha (hw.facts hs)
theorem RL.weak {M' : List HP} {F' : List Fact} (hs : ∀ w, St w M F → St w M' F') (h : RL P r N ops rest Q E ds M' F') : RL P r N ops rest Q E ds M F := fun a w ha hw => h a w ha (hs w hw)
theorem TR.weak {c : Code} {M' : List HP} {F' : List Fact} (hs : ∀ w, St w M F → St w M' F') (h : TR P r N c Q E ds M' F') : TR P r N c Q E ds M F := fun a w ha hw => h a w ha (hs w hw)
theorem TR.sub {c : Code} {E' : Env} (hs : SubE E E') (h : TR P r N c Q E' ds M F) : TR P r N c Q E ds M F := fun a w ha hw => h a w (ha.sub hs) hw
theorem RL.sub {E' : Env} (hs : SubE E E') (h : RL P r N ops rest Q E' ds M F) : RL P r N ops rest Q E ds M F := fun a w ha hw => h a w (ha.sub hs) hw
theorem NX.weak {e : Exit} {M' : List HP} {F' : List Fact} (hs : ∀ w, St w M F → St w M' F') (h : NX N e Q E ds M' F') : NX N e Q E ds M F := fun a w ha hw => h a w ha (hs w hw)
theorem RL.open {ι : Sort _} {M' : ι → List HP} {F' : ι → List Fact} (hk : ∀ w, St w M F → ∃ i, St w (M' i) (F' i)) (h : ∀ i, RL P r N ops rest Q E ds (M' i) (F' i)) : RL P r N ops rest Q E ds M F := fun a w ha hw => by
  obtain ⟨i, hi⟩ := hk w hw
  exact h i a w ha hi
theorem TR.open {ι : Sort _} {c : Code} {M' : ι → List HP} {F' : ι → List Fact} (hk : ∀ w, St w M F → ∃ i, St w (M' i) (F' i)) (h : ∀ i, TR P r N c Q E ds (M' i) (F' i)) : TR P r N c Q E ds M F := fun a w ha hw => by
  obtain ⟨i, hi⟩ := hk w hw
  exact h i a w ha hi
theorem RL.openP {ι : Sort _} {p : ι → Prop} {M' : ι → List HP} {F' : ι → List Fact} (hk : ∀ w, St w M F → ∃ i, p i ∧ St w (M' i) (F' i)) (h : ∀ i, p i → RL P r N ops rest Q E ds (M' i) (F' i)) : RL P r N ops rest Q E ds M F := fun a w ha hw => by
  obtain ⟨i, hp, hi⟩ := hk w hw
  exact h i hp a w ha hi
theorem TR.openP {ι : Sort _} {c : Code} {p : ι → Prop} {M' : ι → List HP} {F' : ι → List Fact} (hk : ∀ w, St w M F → ∃ i, p i ∧ St w (M' i) (F' i)) (h : ∀ i, p i → TR P r N c Q E ds (M' i) (F' i)) : TR P r N c Q E ds M F := fun a w ha hw => by
  obtain ⟨i, hp, hi⟩ := hk w hw
  exact h i hp a w ha hi
theorem RL.open1 {p : Prop} {M' : List HP} {F' : List Fact} (hk : ∀ w, St w M F → p ∧ St w M' F') (h : p → RL P r N ops rest Q E ds M' F') : RL P r N ops rest Q E ds M F := RL.openP (ι := Unit) (p := fun _ => p) (fun w hw => ⟨(), hk w hw⟩) fun _ => h
theorem TR.open1 {c : Code} {p : Prop} {M' : List HP} {F' : List Fact} (hk : ∀ w, St w M F → p ∧ St w M' F') (h : p → TR P r N c Q E ds M' F') : TR P r N c Q E ds M F := TR.openP (ι := Unit) (p := fun _ => p) (fun w hw => ⟨(), hk w hw⟩) fun _ => h
theorem TR.region {id : Nat} {l : List Oper} (h : RL P r N l.toArray l Q E ds M F) : TR P r N (.region id l.toArray false) Q E ds M F :=
  fun a w ha hw => wpIn_region_lit (h a w ha hw)
theorem TR.seq {x y : Code} (h : TR P r N x (Exit.then (y.wpIn (Wd r) 0 P Q) Q) E ds M F) : TR P r N (.seq x y) Q E ds M F :=
  fun a w ha hw => wpIn_seq (h a w ha hw)
theorem TR.cut {ι : Type} (E' : ι → Env) (M' : ι → List HP) (F' : ι → List Fact) {x y : Code}
    (h : TR P r N x (Exit.then (fun a w => ∃ i, Sat N (E' i) ds a ∧ St w (M' i) (F' i)) Q) E ds M F) (k : ∀ i, TR P r N y Q (E' i) ds (M' i) (F' i)) : TR P r N (.seq x y) Q E ds M F :=
  fun a w ha hw => wpIn_seq (wpIn_mono (h a w ha hw) fun e a' w' hq => by
    cases e with
    | normal => obtain ⟨i, h1, h2⟩ := hq; exact k i a' w' h1 h2
    | _ => exact hq)
theorem TR.skip (h : NX N .normal Q E ds M F) : TR P r N .skip Q E ds M F := fun a w ha hw => wpIn_skip (h a w ha hw)
theorem TR.ret (h : NX N .ret Q E ds M F) : TR P r N .ret Q E ds M F := fun a w ha hw => wpIn_ret (h a w ha hw)
theorem TR.exit {id : Nat} (h : NX N (.exit id) Q E ds M F) : TR P r N (.exit id) Q E ds M F := fun a w ha hw => wpIn_exit (h a w ha hw)
theorem TR.block {id : Nat} {c : Code} (h : TR P r N c (Exit.inBlock id Q) E ds M F) : TR P r N (.block id c) Q E ds M F := fun a w ha hw => wpIn_block (h a w ha hw)
theorem TR.cond {c : Operand} {x y : Code} {b : Bool} (hc : evalO E c = some (.bool b)) (ht : b = true → TR P r N x Q E ds M F) (hf : b = false → TR P r N y Q E ds M F) : TR P r N (.cond c x y) Q E ds M F :=
  fun a w ha hw => wpIn_cond_split (ha.eval hc) (fun h => ht h a w ha hw) (fun h => hf h a w ha hw)
theorem TR.condT {c : Operand} {x y : Code} (hc : evalO E c = some (.bool true)) (ht : TR P r N x Q E ds M F) : TR P r N (.cond c x y) Q E ds M F :=
  fun a w ha hw => wpIn_cond_true (ha.eval hc) (ht a w ha hw)
theorem TR.condF {c : Operand} {x y : Code} (hc : evalO E c = some (.bool false)) (hf : TR P r N y Q E ds M F) : TR P r N (.cond c x y) Q E ds M F :=
  fun a w ha hw => wpIn_cond_false (ha.eval hc) (hf a w ha hw)
def Inv {ι : Type} (N : Nat) (ds : List Deferred) (E' : ι → Env) (M' : ι → List HP) (F' : ι → List Fact) (μ : ι → Nat) (n : Nat) : Act → World → Prop :=
  fun a w => ∃ j, μ j < n ∧ Sat N (E' j) ds a ∧ St w (M' j) (F' j)
theorem exists_min {p : Nat → Prop} (h : ∃ n, p n) : ∃ n, p n ∧ ∀ m, p m → n ≤ m := by
  obtain ⟨n, hn⟩ := h
  induction n using Nat.strongRecOn with
  | _ n ih =>
    by_cases hq : ∃ m, m < n ∧ p m
    · obtain ⟨m, hm, hpm⟩ := hq
      exact ih m hm hpm
    · exact ⟨n, hn, fun m hm => Nat.le_of_not_lt fun hlt => hq ⟨m, hlt, hm⟩⟩
theorem TR.loop {ι : Type} (E' : ι → Env) (M' : ι → List HP) (F' : ι → List Fact) (μ : ι → Nat) (i0 : ι) {body : Code} (hE : SubE E (E' i0)) (hS : ∀ w, St w M F → St w (M' i0) (F' i0))
    (h : ∀ i, TR P r N body (Exit.then (Inv N ds E' M' F' μ (μ i)) Q) (E' i) ds (M' i) (F' i)) : TR P r N (.loop body) Q E ds M F := fun a w ha hw => by
  classical
  have key : ∀ n (i : ι), μ i = n → ∀ a w, Sat N (E' i) ds a → St w (M' i) (F' i) → (Code.loop body).wpIn (Wd r) 0 P Q a w := by
    intro n i hn a w ha hw
    refine wpIn_loop (fun a w => ∃ i, Sat N (E' i) ds a ∧ St w (M' i) (F' i)) (fun a w => if h : ∃ n i, μ i = n ∧ Sat N (E' i) ds a ∧ St w (M' i) (F' i) then Classical.choose (exists_min h) else 0) ⟨i, ha, hw⟩ ?_
    rintro a w ⟨i, ha, hw⟩
    have hex : ∃ n i, μ i = n ∧ Sat N (E' i) ds a ∧ St w (M' i) (F' i) := ⟨_, i, rfl, ha, hw⟩
    obtain ⟨⟨i1, e1, ha1, hw1⟩, hmin⟩ := Classical.choose_spec (exists_min hex)
    refine wpIn_mono (h i1 a w ha1 hw1) fun e a' w' hq => ?_
    cases e with
    | normal =>
      obtain ⟨j, hlt, haj, hwj⟩ := hq
      refine ⟨⟨j, haj, hwj⟩, ?_⟩
      have hex' : ∃ n i, μ i = n ∧ Sat N (E' i) ds a' ∧ St w' (M' i) (F' i) := ⟨_, j, rfl, haj, hwj⟩
      rw [dif_pos hex', dif_pos hex]
      have h2 := (Classical.choose_spec (exists_min hex')).2 (μ j) ⟨j, rfl, haj, hwj⟩
      omega
    | _ => exact hq
  exact key _ i0 rfl a w (ha.sub hE) (hS w hw)
def InvP {ι : Type} (p : ι → Prop) (N : Nat) (ds : List Deferred) (E' : ι → Env) (M' : ι → List HP) (F' : ι → List Fact) (μ : ι → Nat) (n : Nat) : Act → World → Prop :=
  fun a w => ∃ j, p j ∧ μ j < n ∧ Sat N (E' j) ds a ∧ St w (M' j) (F' j)
theorem TR.loopP {ι : Type} (p : ι → Prop) (E' : ι → Env) (M' : ι → List HP) (F' : ι → List Fact) (μ : ι → Nat) (i0 : ι) {body : Code} (hp : p i0) (hE : SubE E (E' i0)) (hS : ∀ w, St w M F → St w (M' i0) (F' i0))
    (h : ∀ i, p i → TR P r N body (Exit.then (InvP p N ds E' M' F' μ (μ i)) Q) (E' i) ds (M' i) (F' i)) : TR P r N (.loop body) Q E ds M F :=
  TR.loop (ι := {i : ι // p i}) (fun i => E' i.1) (fun i => M' i.1) (fun i => F' i.1) (fun i => μ i.1) ⟨i0, hp⟩ hE hS fun i a w ha hw => wpIn_mono (h i.1 i.2 a w ha hw) fun e a' w' hq => by
    cases e with
    | normal => obtain ⟨j, h1, h2, h3, h4⟩ := hq; exact ⟨⟨j, h1⟩, h2, h3, h4⟩
    | _ => exact hq
theorem NX.seq {y : Code} {Q' : Exit → Act → World → Prop} (h : TR P r N y Q E ds M F) : NX N .normal (Exit.then (y.wpIn (Wd r) 0 P Q) Q') E ds M F := h
theorem NX.round {ι : Type} {E' : ι → Env} {M' : ι → List HP} {F' : ι → List Fact} {μ : ι → Nat} {n : Nat} (j : ι) (hμ : μ j < n) (hE : SubE E (E' j)) (hS : ∀ w, St w M F → St w (M' j) (F' j)) : NX N .normal (Exit.then (Inv N ds E' M' F' μ n) Q) E ds M F :=
  fun _ w ha hw => ⟨j, hμ, ha.sub hE, hS w hw⟩
theorem NX.roundP {ι : Type} {p : ι → Prop} {E' : ι → Env} {M' : ι → List HP} {F' : ι → List Fact} {μ : ι → Nat} {n : Nat} (j : ι) (hp : p j) (hμ : μ j < n) (hE : SubE E (E' j)) (hS : ∀ w, St w M F → St w (M' j) (F' j)) : NX N .normal (Exit.then (InvP p N ds E' M' F' μ n) Q) E ds M F :=
  fun _ w ha hw => ⟨j, hp, hμ, ha.sub hE, hS w hw⟩
theorem NX.meet {ι : Type} {E' : ι → Env} {M' : ι → List HP} {F' : ι → List Fact} (j : ι) (hE : SubE E (E' j)) (hS : ∀ w, St w M F → St w (M' j) (F' j)) : NX N .normal (Exit.then (fun a w => ∃ i, Sat N (E' i) ds a ∧ St w (M' i) (F' i)) Q) E ds M F :=
  fun _ w ha hw => ⟨j, ha.sub hE, hS w hw⟩
theorem NX.off {id : Nat} (h : NX N .normal Q E ds M F) : NX N .normal (Exit.inBlock id Q) E ds M F := h
theorem NX.exitThen {id : Nat} {K : Act → World → Prop} (h : NX N (.exit id) Q E ds M F) : NX N (.exit id) (Exit.then K Q) E ds M F := h
theorem NX.exitHere {id : Nat} (h : NX N .normal Q E ds M F) : NX N (.exit id) (Exit.inBlock id Q) E ds M F := fun a w ha hw => by
  show (if id = id then _ else _)
  rw [if_pos rfl]
  exact h a w ha hw
theorem NX.exitOn {id id' : Nat} (hne : Nat.beq id id' = false) (h : NX N (.exit id) Q E ds M F) : NX N (.exit id) (Exit.inBlock id' Q) E ds M F := fun a w ha hw => by
  show (if id = id' then _ else _)
  rw [if_neg (Nat.ne_of_beq_eq_false hne)]
  exact h a w ha hw
theorem NX.retThen {K : Act → World → Prop} (h : NX N .ret Q E ds M F) : NX N .ret (Exit.then K Q) E ds M F := h
theorem NX.retBlock {id : Nat} (h : NX N .ret Q E ds M F) : NX N .ret (Exit.inBlock id Q) E ds M F := h
end
def CI (P : Program) (f : FuncId) (args : Array Value) (w : World) (R : Ending → World → Prop) : Prop := CallsIn (Wd none) 0 P f args w R
def Post {ι : Type} (val : ι → Value) (M' : ι → List HP) (F' : ι → List Fact) : Ending → World → Prop := fun e w' => ∃ i, e = .returned (val i) ∧ St w' (M' i) (F' i)
def Ctr (P : Program) (f : FuncId) (args : List Value) (M : List HP) (F : List Fact) (ι : Type) (val : ι → Value) (M' : ι → List HP) (F' : ι → List Fact) : Prop :=
  ∀ w, St w M F → CI P f args.toArray w (Post val M' F')
theorem perm_mid (L J Mi : List HP) : (L ++ (J ++ Mi)).Perm (J ++ (L ++ Mi)) := by
  rw [← List.append_assoc, ← List.append_assoc]
  exact List.perm_append_comm.append_right _
theorem Ctr.frame {P : Program} {f : FuncId} {args : List Value} {F : List Fact} {ι : Type} {val : ι → Value} {F' : ι → List Fact} (L : List HP) {J Mi : List HP} {J' : ι → List HP}
    (h : Ctr P f args (J ++ (L ++ Mi)) F ι val (fun i => J' i ++ (L ++ Mi)) F') : Ctr P f args (L ++ (J ++ Mi)) F ι val (fun i => L ++ (J' i ++ Mi)) F' := fun w hw =>
  ⟨(h w (hw.perm (perm_mid _ _ _))).1, fun cs hr => by
    obtain ⟨e, w', fr, ⟨i, he, hs⟩, rest⟩ := (h w (hw.perm (perm_mid _ _ _))).2 cs hr
    exact ⟨e, w', fr, ⟨i, he, hs.perm (perm_mid _ _ _).symm⟩, rest⟩⟩
def envOf : Nat → List Value → Env
  | _, [] => []
  | n, v :: vs => (n, v) :: envOf (n + 1) vs
theorem look_envOf : ∀ (vs : List Value) (n k : Nat) (v : Value), look (envOf n vs) k = some v → n ≤ k ∧ vs[k - n]? = some v
  | [], _, _, _, h => by cases h
  | u :: vs, n, k, v, h => by
    simp only [envOf, look] at h
    by_cases e : n = k
    · subst e
      simp at h
      simp [h]
    · have hb : Nat.beq n k = false := beq_false e
      rw [hb] at h
      obtain ⟨h1, h2⟩ := look_envOf vs (n + 1) k v h
      refine ⟨by omega, ?_⟩
      have : k - n = (k - (n + 1)) + 1 := by omega
      rw [this]
      simpa using h2
theorem Ctr.body {P : Program} {f : FuncId} {fn : Func} {c : Code} {args : List Value} {M : List HP} {F : List Fact} {ι : Type} {val : ι → Value} {M' : ι → List HP} {F' : ι → List Fact} {N : Nat}
    (hf : P.funcs[f]? = some fn) (hb : fn.body = some c) (hN : fn.ntmps = N) (h : TR P none N c (bodyPost P fn (Post val M' F')) (envOf 0 args) [] M F) : Ctr P f args M F ι val M' F' := fun w hw => by
  refine callsIn_of_wp hf hb trivial (h _ w ?_ hw)
  subst hN
  refine ⟨by simp; omega, rfl, fun k v hk => ?_⟩
  obtain ⟨_, h2⟩ := look_envOf args 0 k v hk
  have hlt : k < args.length := (List.getElem?_eq_some_iff.1 h2).1
  rw [Array.getElem?_append_left (by simpa using hlt)]
  simpa using h2
theorem Ctr.weak {P : Program} {f : FuncId} {args : List Value} {M M1 : List HP} {F F1 : List Fact} {ι κ : Type} {val : ι → Value} {M' : ι → List HP} {F' : ι → List Fact} {val1 : κ → Value} {M1' : κ → List HP} {F1' : κ → List Fact}
    (h : Ctr P f args M F ι val M' F') (hi : ∀ w, St w M1 F1 → St w M F) (g : ι → κ) (hv : ∀ i, val i = val1 (g i)) (ho : ∀ i w, St w (M' i) (F' i) → St w (M1' (g i)) (F1' (g i))) : Ctr P f args M1 F1 κ val1 M1' F1' := fun w hw =>
  ⟨(h w (hi w hw)).1, fun cs hr => by
    obtain ⟨e, w', fr, ⟨i, he, hs⟩, rest⟩ := (h w (hi w hw)).2 cs hr
    exact ⟨e, w', fr, ⟨g i, he.trans (by rw [hv]), ho i w' hs⟩, rest⟩⟩
section
variable {P : Program} {r : Option Nat} {N : Nat} {ops : Array Oper} {rest : List Oper} {Q : Exit → Act → World → Prop} {E : Env} {ds : List Deferred} {M : List HP} {F : List Fact}
def evalArgs (E : Env) : List Operand → Option (List Value)
  | [] => some []
  | o :: os => match evalO E o, evalArgs E os with
    | some v, some vs => some (v :: vs)
    | _, _ => none
theorem Sat.args {a : Act} (h : Sat N E ds a) : ∀ {os : List Operand} {vs : List Value}, evalArgs E os = some vs → os.map a.eval = vs
  | [], vs, e => by simpa [evalArgs] using e
  | o :: os, vs, e => by
    simp only [evalArgs] at e
    cases h1 : evalO E o with
    | none => rw [h1] at e; cases e
    | some v =>
      cases h2 : evalArgs E os with
      | none => rw [h1, h2] at e; cases e
      | some us =>
        rw [h1, h2] at e
        simp at e
        subst e
        simp [h.eval h1, h.args h2]
theorem RL.callV {d : Nat} {cal : Operand} {asx : List Operand} {ats : Array TypeId} {ty : TypeId} {pos : String} {aft : Array Edge} {gd : Option (Nat × Bool)} {vs fst cap : List Value} {f : FuncId} {ι : Type} {val : ι → Value} {M' : ι → List HP} {F' : ι → List Fact}
    (hg : wantedG ops E gd = some true) (hc : evalO E cal = some (.func (.func f) fst.toArray cap.toArray)) (ha : evalArgs E asx = some vs) (hcall : ∀ args w, (callFunc f args).run P w = .ok (.enter f args) w) (hN : Nat.ble (d + 1) N = true)
    (h : Ctr P f (fst ++ vs ++ cap) M F ι val M' F') (k : ∀ i, RL P r N ops rest Q ((d, val i) :: E) ds (M' i) (F' i)) :
    RL P r N ops (⟨some d, .call ⟨.value cal, asx.toArray, ats⟩, ty, pos, aft, gd⟩ :: rest) Q E ds M F := by
  refine RL.step rfl hg fun a w hs hw => ?_
  have e1 : (execOp a.eval ⟨some d, .call ⟨.value cal, asx.toArray, ats⟩, ty, pos, aft, gd⟩).run P w = .ok (.enter f (fst ++ vs ++ cap).toArray) w := by
    simp [execOp, resolve, hs.eval hc, hs.args ha, Deferred.ofValue, invoke, hcall]
  rw [e1]
  refine ⟨fun h => by simp at h, ?_⟩
  have := h w hw
  refine ⟨this.1, fun cs hr => ?_⟩
  obtain ⟨e, w', fr, ⟨i, he, hst⟩, rest'⟩ := this.2 cs hr
  subst he
  exact ⟨_, w', fr, k i _ w' (hs.put hN _) hst, rest'⟩
theorem RL.call {d : Nat} {f : FuncId} {asx : List Operand} {ats : Array TypeId} {ty : TypeId} {pos : String} {aft : Array Edge} {gd : Option (Nat × Bool)} {vs : List Value} {ι : Type} {val : ι → Value} {M' : ι → List HP} {F' : ι → List Fact}
    (hg : wantedG ops E gd = some true) (ha : evalArgs E asx = some vs) (hcall : ∀ args w, (callFunc f args).run P w = .ok (.enter f args) w) (hN : Nat.ble (d + 1) N = true)
    (h : Ctr P f vs M F ι val M' F') (k : ∀ i, RL P r N ops rest Q ((d, val i) :: E) ds (M' i) (F' i)) :
    RL P r N ops (⟨some d, .call ⟨.value (.func f), asx.toArray, ats⟩, ty, pos, aft, gd⟩ :: rest) Q E ds M F :=
  RL.callV (fst := []) (cap := []) hg rfl ha hcall hN (by simpa using h) k
theorem NX.ret1 {fn : Func} {t : Nat} {v : Value} {ι : Type} {val : ι → Value} {M' : ι → List HP} {F' : ι → List Fact} (i : ι) (hr : fn.results = #[.tmp t]) (ht : look E t = some v) (hv : v = val i) (hS : ∀ w, St w M F → St w (M' i) (F' i)) :
    NX N .ret (bodyPost P fn (Post val M' F')) E [] M F := fun a w ha hw => by
  refine ⟨ha.defers, v, ?_, i, by rw [hv], hS w hw⟩
  rw [results_tmp hr]
  simp [ha.get t v ht]
theorem NX.ret2 {fn : Func} {t u : Nat} {v v' : Value} {ι : Type} {val : ι → Value} {M' : ι → List HP} {F' : ι → List Fact} (i : ι) (hr : fn.results = #[.tmp t, .tmp u]) (ht : look E t = some v) (hu : look E u = some v') (hv : .tuple #[v, v'] = val i) (hS : ∀ w, St w M F → St w (M' i) (F' i)) :
    NX N .ret (bodyPost P fn (Post val M' F')) E [] M F := fun a w ha hw => by
  refine ⟨ha.defers, .tuple #[v, v'], ?_, i, by rw [hv], hS w hw⟩
  rw [results_tmp2 hr]
  simp [ha.get t v ht, ha.get u v' hu]
theorem NX.end0 {fn : Func} {ι : Type} {val : ι → Value} {M' : ι → List HP} {F' : ι → List Fact} (i : ι) (hr : fn.results = #[]) (hv : .tuple #[] = val i) (hS : ∀ w, St w M F → St w (M' i) (F' i)) :
    NX N .normal (bodyPost P fn (Post val M' F')) E [] M F := fun a w ha hw => by
  refine ⟨ha.defers, .tuple #[], results_none hr _ _ _, i, by rw [hv], hS w hw⟩
theorem NX.ret0 {fn : Func} {ι : Type} {val : ι → Value} {M' : ι → List HP} {F' : ι → List Fact} (i : ι) (hr : fn.results = #[]) (hv : .tuple #[] = val i) (hS : ∀ w, St w M F → St w (M' i) (F' i)) :
    NX N .ret (bodyPost P fn (Post val M' F')) E [] M F := fun a w ha hw => by
  refine ⟨ha.defers, .tuple #[], results_none hr _ _ _, i, by rw [hv], hS w hw⟩
end
end Go.GL

namespace Go.GL
def tyScalar (P : Program) (t : TypeId) : Bool :=
  (match P.underlying t with | some (.struct _) | some (.array _ _) | none => false | _ => true) && ((P.info? t).map (·.size)) == some 1
def tyAgg (P : Program) (t : TypeId) (n : Nat) : Bool :=
  (match P.underlying t with | some (.struct _) | some (.array _ _) => true | _ => false) && ((P.info? t).map (·.size)) == some n
def tySlice (P : Program) (t e : TypeId) : Bool := match P.underlying t with | some (.slice e') => Nat.beq e' e | _ => false
def tySize (P : Program) (t : TypeId) (n : Nat) : Bool := ((P.info? t).map (·.size)) == some n
def tyStr (P : Program) (t : TypeId) : Bool := match P.underlying t with | some .string => true | _ => false
def fieldOff (P : Program) (t : TypeId) (f : Nat) (off : Nat) : Bool := match P.underlying t with
  | some (.struct fs) => match fs[f]? with
    | some fd => Nat.beq fd.offset off && (match P.info? fd.type with | some i => !(Nat.beq i.size 0) | none => false)
    | none => false
  | _ => false
section
variable {P : Program} {w : World}
theorem run_tySlice {t e : TypeId} (h : tySlice P t e = true) : P.underlying t = some (.slice e) := by
  unfold tySlice at h
  split at h
  · rename_i e' he; rw [he, Nat.eq_of_beq_eq_true h]
  · cases h
theorem tyStr_underlying {t : TypeId} (h : tyStr P t = true) : P.underlying t = some .string := by
  unfold tyStr at h
  split at h
  · rename_i he; exact he
  · cases h
theorem tySize_info {t : TypeId} {n : Nat} (h : tySize P t n = true) : ∃ i, P.info? t = some i ∧ i.size = n := by
  unfold tySize at h
  cases hi : P.info? t with
  | none => rw [hi] at h; simp at h
  | some i => rw [hi] at h; exact ⟨i, rfl, by simpa using h⟩
theorem run_sizeOf' {t : TypeId} {n : Nat} (h : tySize P t n = true) : (sizeOf t).run P w = .ok n w := by
  obtain ⟨i, hi, rfl⟩ := tySize_info h
  simp [sizeOf, typeInfo, hi]
theorem tyScalar_size {t : TypeId} (h : tyScalar P t = true) : tySize P t 1 = true := by
  unfold tyScalar at h
  simp only [Bool.and_eq_true] at h
  exact h.2
theorem tyAgg_size {t : TypeId} {n : Nat} (h : tyAgg P t n = true) : tySize P t n = true := by
  unfold tyAgg at h
  simp only [Bool.and_eq_true] at h
  exact h.2
theorem run_isAgg_scalar {t : TypeId} (h : tyScalar P t = true) : (isAgg t).run P w = .ok false w := by
  unfold tyScalar at h
  simp only [Bool.and_eq_true] at h
  cases hu : P.underlying t with
  | none => rw [hu] at h; simp at h
  | some d => rw [hu] at h; cases d <;> simp_all [isAgg, run_underlying hu]
theorem run_isAgg_agg {t : TypeId} {n : Nat} (h : tyAgg P t n = true) : (isAgg t).run P w = .ok true w := by
  unfold tyAgg at h
  simp only [Bool.and_eq_true] at h
  cases hu : P.underlying t with
  | none => rw [hu] at h; simp at h
  | some d => rw [hu] at h; cases d <;> simp_all [isAgg, run_underlying hu]
theorem addr_add (b off n : Nat) : (⟨b, off, none⟩ : Addr).add n = ⟨b, off + n, none⟩ := by
  unfold Addr.add
  split
  · rename_i h; subst h; rfl
  · rfl
theorem run_loadVar_scalar {t : TypeId} (h : tyScalar P t = true) {a : Addr} {v : Value} (hc : w.cell? a = some v) : (loadVar t a).run P w = .ok v w := by
  simp [loadVar, run_isAgg_scalar h, hc]
theorem run_loadVar_agg {t : TypeId} {n : Nat} (h : tyAgg P t n = true) {a : Addr} {vs : List Value} (hl : vs.length = n) (hc : ∀ j v, vs[j]? = some v → w.cell? (a.add j) = some v) : (loadVar t a).run P w = .ok (.agg vs.toArray) w := by
  have := run_loadCells_list (P := P) w a vs hc
  simp [loadVar, run_isAgg_agg h, run_sizeOf' (tyAgg_size h), ← hl, this]
theorem cell_of_box {b t off : Nat} {cs : List Value} (h : w.heap[b]? = some (.cells cs.toArray t (0, 0))) : w.cell? ⟨b, off, none⟩ = cs[off]? := by
  simpa using cell_of_row w b off cs.toArray t (0, 0) h
theorem run_storeVar_scalar {t : TypeId} (h : tyScalar P t = true) {b off bt : Nat} {cs : List Value} {v : Value} (hb : w.heap[b]? = some (.cells cs.toArray bt (0, 0))) (ho : off < cs.length) (h1 : v.oneCell' = true) :
    (storeVar t ⟨b, off, none⟩ v).run P w = .ok () (w.setCell ⟨b, off, none⟩ v) := by
  have hv : v.cells = #[v] := by cases v <;> first | rfl | simp [Value.oneCell'] at h1
  have hc : w.cell? ⟨b, off, none⟩ = some cs[off] := by rw [cell_of_box hb]; exact List.getElem?_eq_getElem ho
  have hf : w.frozen? ⟨b, off, none⟩ = false := by simp [World.frozen?, hb]
  simp [storeVar, hv, run_sizeOf' (tyScalar_size h), storeCells, addr_add, run_store P w _ v _ h1, hc, hf]
end
section
variable {P : Program} {r : Option Nat} {N : Nat} {ops : Array Oper} {rest : List Oper} {Q : Exit → Act → World → Prop} {E : Env} {ds : List Deferred} {M : List HP} {F : List Fact}
variable {d : Nat} {ty : TypeId} {pos : String} {aft : Array Edge} {gd : Option (Nat × Bool)}
theorem RL.val {op : Op} {v : Value} (hnd : isDefer op = false) (hg : wantedG ops E gd = some true) (hN : Nat.ble (d + 1) N = true)
    (hv : ∀ ρ : Operand → Value, (∀ x u, evalO E x = some u → ρ x = u) → ∀ w, St w M F → (execOp ρ ⟨some d, op, ty, pos, aft, gd⟩).run P w = .ok (.value v) w)
    (k : RL P r N ops rest Q ((d, v) :: E) ds M F) : RL P r N ops (⟨some d, op, ty, pos, aft, gd⟩ :: rest) Q E ds M F := by
  refine RL.step hnd hg fun a w hs hw => ?_
  rw [hv a.eval (fun x u h => hs.eval h) w hw]
  exact k _ w (hs.put hN _) hw
theorem RL.gen {op : Op} {ι : Type} {val : ι → Value} {M' : ι → List HP} {F' : ι → List Fact} (hnd : isDefer op = false) (hg : wantedG ops E gd = some true) (hN : Nat.ble (d + 1) N = true)
    (hv : ∀ ρ : Operand → Value, (∀ x u, evalO E x = some u → ρ x = u) → ∀ w, St w M F → ∃ i w', (execOp ρ ⟨some d, op, ty, pos, aft, gd⟩).run P w = .ok (.value (val i)) w' ∧ St w' (M' i) (F' i))
    (k : ∀ i, RL P r N ops rest Q ((d, val i) :: E) ds (M' i) (F' i)) : RL P r N ops (⟨some d, op, ty, pos, aft, gd⟩ :: rest) Q E ds M F := by
  refine RL.step hnd hg fun a w hs hw => ?_
  obtain ⟨i, w', e, hst⟩ := hv a.eval (fun x u h => hs.eval h) w hw
  rw [e]
  exact k i _ w' (hs.put hN _) hst
theorem RL.eff {op : Op} {M' : List HP} (hnd : isDefer op = false) (hg : wantedG ops E gd = some true)
    (hv : ∀ ρ : Operand → Value, (∀ x u, evalO E x = some u → ρ x = u) → ∀ w, St w M F → ∃ w', (execOp ρ ⟨none, op, ty, pos, aft, gd⟩).run P w = .ok .skip w' ∧ St w' M' F)
    (k : RL P r N ops rest Q E ds M' F) : RL P r N ops (⟨none, op, ty, pos, aft, gd⟩ :: rest) Q E ds M F := by
  refine RL.step hnd hg fun a w hs hw => ?_
  obtain ⟨w', e, hst⟩ := hv a.eval (fun x u h => hs.eval h) w hw
  rw [e]
  exact k _ w' hs hst
theorem RL.move {x : Operand} {v : Value} (hg : wantedG ops E gd = some true) (hx : evalO E x = some v) (hN : Nat.ble (d + 1) N = true) (k : RL P r N ops rest Q ((d, v) :: E) ds M F) : RL P r N ops (⟨some d, .move x, ty, pos, aft, gd⟩ :: rest) Q E ds M F :=
  RL.val rfl hg hN (fun ρ hρ w _ => by simp [execOp, hρ _ _ hx]) k
theorem RL.assign {x : Operand} {v : Value} (hg : wantedG ops E gd = some true) (hx : evalO E x = some v) (hN : Nat.ble (d + 1) N = true) (k : RL P r N ops rest Q ((d, v) :: E) ds M F) : RL P r N ops (⟨some d, .assign x, ty, pos, aft, gd⟩ :: rest) Q E ds M F :=
  RL.val rfl hg hN (fun ρ hρ w _ => by simp [execOp, hρ _ _ hx]) k
theorem RL.pickT {c x y : Operand} {v : Value} (hg : wantedG ops E gd = some true) (hc : evalO E c = some (.bool true)) (hx : evalO E x = some v) (hN : Nat.ble (d + 1) N = true) (k : RL P r N ops rest Q ((d, v) :: E) ds M F) : RL P r N ops (⟨some d, .pick c x y, ty, pos, aft, gd⟩ :: rest) Q E ds M F :=
  RL.val rfl hg hN (fun ρ hρ w _ => by simp [execOp, hρ _ _ hc, hρ _ _ hx, asBool]) k
theorem RL.pickF {c x y : Operand} {v : Value} (hg : wantedG ops E gd = some true) (hc : evalO E c = some (.bool false)) (hy : evalO E y = some v) (hN : Nat.ble (d + 1) N = true) (k : RL P r N ops rest Q ((d, v) :: E) ds M F) : RL P r N ops (⟨some d, .pick c x y, ty, pos, aft, gd⟩ :: rest) Q E ds M F :=
  RL.val rfl hg hN (fun ρ hρ w _ => by simp [execOp, hρ _ _ hc, hρ _ _ hy, asBool]) k
theorem RL.part {t : Nat} {b : Bool} {E' : Env} (ht : b = true → RL P r N ops rest Q ((t, .bool true) :: E') ds M F) (hf : b = false → RL P r N ops rest Q ((t, .bool false) :: E') ds M F) : RL P r N ops rest Q ((t, .bool b) :: E') ds M F := by
  cases b
  · exact hf rfl
  · exact ht rfl
theorem RL.nilCheck {x : Operand} {a : Addr} (hg : wantedG ops E gd = some true) (hx : evalO E x = some (.pointer (some a))) (hN : Nat.ble (d + 1) N = true) (k : RL P r N ops rest Q ((d, .pointer (some a)) :: E) ds M F) : RL P r N ops (⟨some d, .nilCheck x, ty, pos, aft, gd⟩ :: rest) Q E ds M F :=
  RL.val rfl hg hN (fun ρ hρ w _ => by simp [execOp, hρ _ _ hx]) k
theorem RL.extract {x : Operand} {i : Nat} {vs : Array Value} {v : Value} (hg : wantedG ops E gd = some true) (hx : evalO E x = some (.tuple vs)) (hv : vs[i]? = some v) (hN : Nat.ble (d + 1) N = true) (k : RL P r N ops rest Q ((d, v) :: E) ds M F) : RL P r N ops (⟨some d, .extract x i, ty, pos, aft, gd⟩ :: rest) Q E ds M F :=
  RL.val rfl hg hN (fun ρ hρ w _ => by simp [execOp, hρ _ _ hx, Instr.extract, hv]) k
theorem RL.not {t : TypeId} {x : Operand} {b : Bool} (hg : wantedG ops E gd = some true) (hx : evalO E x = some (.bool b)) (hN : Nat.ble (d + 1) N = true) (k : RL P r N ops rest Q ((d, .bool (!b)) :: E) ds M F) : RL P r N ops (⟨some d, .unOp .not t x, ty, pos, aft, gd⟩ :: rest) Q E ds M F :=
  RL.val rfl hg hN (fun ρ hρ w _ => by simp [execOp, hρ _ _ hx, Op.unary]) k
theorem RL.alloc1 {t : TypeId} {z : Value} (hg : wantedG ops E gd = some true) (hz : ∀ w, (zeroValue t).run P w = .ok z w) (h1 : z.oneCell' = true) (hN : Nat.ble (d + 1) N = true) (k : ∀ b, RL P r N ops rest Q ((d, .pointer (some ⟨b, 0, none⟩)) :: E) ds (Box b t [z] :: M) F) : RL P r N ops (⟨some d, .alloc t, ty, pos, aft, gd⟩ :: rest) Q E ds M F :=
  RL.gen (ι := Nat) (val := fun b => .pointer (some ⟨b, 0, none⟩)) (M' := fun b => Box b t [z] :: M) (F' := fun _ => F) rfl hg hN (fun ρ hρ w hw => by
    have hv : z.cells = #[z] := by cases z <;> first | rfl | simp [Value.oneCell'] at h1
    exact ⟨w.heap.size, _, by simp [execOp, Instr.alloc, hz, newVar, newRow, hv], hw.alloc _⟩) k
theorem RL.allocA {t : TypeId} {cs : List Value} (hg : wantedG ops E gd = some true) (hz : ∀ w, (zeroValue t).run P w = .ok (.agg cs.toArray) w) (hN : Nat.ble (d + 1) N = true) (k : ∀ b, RL P r N ops rest Q ((d, .pointer (some ⟨b, 0, none⟩)) :: E) ds (Box b t cs :: M) F) : RL P r N ops (⟨some d, .alloc t, ty, pos, aft, gd⟩ :: rest) Q E ds M F :=
  RL.gen (ι := Nat) (val := fun b => .pointer (some ⟨b, 0, none⟩)) (M' := fun b => Box b t cs :: M) (F' := fun _ => F) rfl hg hN (fun ρ hρ w hw =>
    ⟨w.heap.size, _, by simp [execOp, Instr.alloc, hz, newVar, newRow, Value.cells], hw.alloc _⟩) k
theorem RL.box1 {t : TypeId} {x : Operand} {v : Value} (hg : wantedG ops E gd = some true) (hx : evalO E x = some v) (h1 : v.oneCell' = true) (hN : Nat.ble (d + 1) N = true) (k : ∀ b, RL P r N ops rest Q ((d, .pointer (some ⟨b, 0, none⟩)) :: E) ds (Box b t [v] :: M) F) : RL P r N ops (⟨some d, .box t x, ty, pos, aft, gd⟩ :: rest) Q E ds M F :=
  RL.gen (ι := Nat) (val := fun b => .pointer (some ⟨b, 0, none⟩)) (M' := fun b => Box b t [v] :: M) (F' := fun _ => F) rfl hg hN (fun ρ hρ w hw => by
    have hv : v.cells = #[v] := by cases v <;> first | rfl | simp [Value.oneCell'] at h1
    exact ⟨w.heap.size, _, by simp [execOp, Instr.box, hρ _ _ hx, newVar, newRow, hv], hw.alloc _⟩) k
theorem RL.boxA {t : TypeId} {x : Operand} {cs : List Value} (hg : wantedG ops E gd = some true) (hx : evalO E x = some (.agg cs.toArray)) (hN : Nat.ble (d + 1) N = true) (k : ∀ b, RL P r N ops rest Q ((d, .pointer (some ⟨b, 0, none⟩)) :: E) ds (Box b t cs :: M) F) : RL P r N ops (⟨some d, .box t x, ty, pos, aft, gd⟩ :: rest) Q E ds M F :=
  RL.gen (ι := Nat) (val := fun b => .pointer (some ⟨b, 0, none⟩)) (M' := fun b => Box b t cs :: M) (F' := fun _ => F) rfl hg hN (fun ρ hρ w hw =>
    ⟨w.heap.size, _, by simp [execOp, Instr.box, hρ _ _ hx, newVar, newRow, Value.cells], hw.alloc _⟩) k
theorem RL.load1 {t bt : TypeId} {x : Operand} {b off : Nat} {cs : List Value} {v : Value} (i : Nat) (hg : wantedG ops E gd = some true) (ht : tyScalar P t = true) (hx : evalO E x = some (.pointer (some ⟨b, off, none⟩))) (hi : M[i]? = some (Box b bt cs)) (hc : cs[off]? = some v) (hN : Nat.ble (d + 1) N = true) (k : RL P r N ops rest Q ((d, v) :: E) ds M F) : RL P r N ops (⟨some d, .load t x, ty, pos, aft, gd⟩ :: rest) Q E ds M F :=
  RL.val rfl hg hN (fun ρ hρ w hw => by
    have hb := hw.heap hi
    simp [execOp, hρ _ _ hx, Instr.loadAt, Instr.sureAddr, run_loadVar_scalar ht ((cell_of_box hb).trans hc)]) k
theorem RL.loadA {t bt : TypeId} {x : Operand} {b : Nat} {cs : List Value} (i : Nat) (hg : wantedG ops E gd = some true) (hx : evalO E x = some (.pointer (some ⟨b, 0, none⟩))) (hi : M[i]? = some (Box b bt cs)) (ht : tyAgg P t cs.length = true) (hN : Nat.ble (d + 1) N = true) (k : RL P r N ops rest Q ((d, .agg cs.toArray) :: E) ds M F) : RL P r N ops (⟨some d, .load t x, ty, pos, aft, gd⟩ :: rest) Q E ds M F :=
  RL.val rfl hg hN (fun ρ hρ w hw => by
    have hb := hw.heap hi
    simp [execOp, hρ _ _ hx, Instr.loadAt, Instr.sureAddr, run_loadVar_agg ht (a := ⟨b, 0, none⟩) rfl fun j v hv => by rw [addr_add, cell_of_box hb]; simpa using hv]) k
def Reads (P : Program) (w : World) (t : TypeId) (a : Addr) (v : Value) : Prop := (loadVar t a).run P w = .ok v w
theorem RL.loadF {t : TypeId} {x : Operand} {a : Addr} {v : Value} (hg : wantedG ops E gd = some true) (hx : evalO E x = some (.pointer (some a))) (hF : ∀ w K, FAll F w K → Reads P w t a v) (hN : Nat.ble (d + 1) N = true) (k : RL P r N ops rest Q ((d, v) :: E) ds M F) : RL P r N ops (⟨some d, .load t x, ty, pos, aft, gd⟩ :: rest) Q E ds M F :=
  RL.val rfl hg hN (fun ρ hρ w hw => by
    obtain ⟨K, _, _, hf⟩ := hw
    have := hF w K hf
    unfold Reads at this
    simp [execOp, hρ _ _ hx, Instr.loadAt, Instr.sureAddr, this]) k
theorem RL.loadS {t : TypeId} {x : Operand} {a : Addr} {v : Value} (hg : wantedG ops E gd = some true) (hx : evalO E x = some (.pointer (some a))) (hF : ∀ w, St w M F → Reads P w t a v) (hN : Nat.ble (d + 1) N = true) (k : RL P r N ops rest Q ((d, v) :: E) ds M F) : RL P r N ops (⟨some d, .load t x, ty, pos, aft, gd⟩ :: rest) Q E ds M F :=
  RL.val rfl hg hN (fun ρ hρ w hw => by
    have := hF w hw
    unfold Reads at this
    simp [execOp, hρ _ _ hx, Instr.loadAt, Instr.sureAddr, this]) k
theorem RL.store1 {t bt : TypeId} {x y : Operand} {b off : Nat} {cs : List Value} {v : Value} (i : Nat) (hg : wantedG ops E gd = some true) (ht : tyScalar P t = true) (hx : evalO E x = some (.pointer (some ⟨b, off, none⟩))) (hy : evalO E y = some v) (hi : M[i]? = some (Box b bt cs)) (ho : Nat.ble (off + 1) cs.length = true) (h1 : v.oneCell' = true) (k : RL P r N ops rest Q E ds (M.set i (Box b bt (cs.set off v))) F) : RL P r N ops (⟨none, .store t x y, ty, pos, aft, gd⟩ :: rest) Q E ds M F :=
  RL.eff rfl hg (fun ρ hρ w hw => by
    have hb := hw.heap hi
    exact ⟨_, by simp [execOp, hρ _ _ hx, hρ _ _ hy, Instr.storeAt, Instr.sureAddr, run_storeVar_scalar ht hb (Nat.le_of_ble_eq_true ho) h1], hw.setCell hi off v⟩) k
theorem St.setRow {w : World} {b bt i : Nat} {cs vs : List Value} (hw : St w M F) (hi : M[i]? = some (Box b bt cs)) : St (w.setRow b vs.toArray) (M.set i (Box b bt vs)) F := by
  have hb := hw.heap hi
  have hlt := (Array.getElem?_eq_some_iff.1 hb).1
  refine hw.putHeap hi rfl rfl rfl (by simp) ?_ fun c hc => ?_
  · simp [World.setRow, Array.getElem?_modify, hb]
  · simp only [World.setRow, Array.getElem?_modify]
    rw [if_neg (fun e => hc e.symm)]
theorem RL.storeA {t bt : TypeId} {x y : Operand} {b : Nat} {cs vs : List Value} (i : Nat) (hg : wantedG ops E gd = some true) (hx : evalO E x = some (.pointer (some ⟨b, 0, none⟩))) (hy : evalO E y = some (.agg vs.toArray)) (hi : M[i]? = some (Box b bt cs)) (ht : tySize P t vs.length = true) (hl : Nat.beq cs.length vs.length = true) (h1 : vs.all Value.oneCell' = true) (k : RL P r N ops rest Q E ds (M.set i (Box b bt vs)) F) : RL P r N ops (⟨none, .store t x y, ty, pos, aft, gd⟩ :: rest) Q E ds M F :=
  RL.eff rfl hg (fun ρ hρ w hw => by
    have hb := hw.heap hi
    have hl' := Nat.eq_of_beq_eq_true hl
    have hst := run_storeCells_at P b 0 bt vs 0 cs.toArray w hb (by simp; omega) (fun v hv => List.all_eq_true.1 h1 v hv)
    refine ⟨w.setRow b vs.toArray, ?_, hw.setRow hi⟩
    have e : (List.take (0 + 0) cs ++ vs ++ List.drop (0 + 0 + vs.length) cs).toArray = vs.toArray := by
      rw [List.drop_of_length_le (by omega)]; simp
    simp only [e] at hst
    simp [execOp, hρ _ _ hx, hρ _ _ hy, Instr.storeAt, Instr.sureAddr, storeVar, run_sizeOf' ht, Value.cells, hst]) k
theorem RL.fieldAddr {t : TypeId} {x : Operand} {f b off o : Nat} (hg : wantedG ops E gd = some true) (hf : fieldOff P t f o = true) (hx : evalO E x = some (.pointer (some ⟨b, off, none⟩))) (hN : Nat.ble (d + 1) N = true) (k : RL P r N ops rest Q ((d, .pointer (some ⟨b, off + o, none⟩)) :: E) ds M F) : RL P r N ops (⟨some d, .fieldAddr t x f, ty, pos, aft, gd⟩ :: rest) Q E ds M F :=
  RL.val rfl hg hN (fun ρ hρ w _ => by
    unfold fieldOff at hf
    cases hu : P.underlying t with
    | none => rw [hu] at hf; cases hf
    | some td =>
      rw [hu] at hf
      cases td <;> try (cases hf; done)
      rename_i fs
      simp only at hf
      cases hfd : fs[f]? with
      | none => rw [hfd] at hf; cases hf
      | some fd =>
        rw [hfd] at hf
        simp only [Bool.and_eq_true] at hf
        obtain ⟨h1, h2⟩ := hf
        have h1' := Nat.eq_of_beq_eq_true h1
        cases hi : P.info? fd.type with
        | none => rw [hi] at h2; cases h2
        | some ti =>
          rw [hi] at h2
          have hne : ¬ ti.size = 0 := by
            intro e
            simp only [e] at h2
            cases h2
          subst h1'
          simp [execOp, hρ _ _ hx, Instr.fieldAt, run_underlying hu, hfd, Instr.sureAddr, fieldPlace, sizeOf, typeInfo, hi, hne, addr_add]) k
theorem RL.indexAddr {t e : TypeId} {x y : Operand} {b off len cap size : Nat} {ik : IntKind} {n : Int} (hg : wantedG ops E gd = some true) (ht : tySlice P t e = true) (hz : tySize P e size = true) (hx : evalO E x = some (.slice (some ⟨b, off, none⟩) len cap)) (hy : evalO E y = some (.int ik n)) (h0 : 0 ≤ n) (h1 : n < len) (hN : Nat.ble (d + 1) N = true) (k : RL P r N ops rest Q ((d, .pointer (some ⟨b, off + n.toNat * size, none⟩)) :: E) ds M F) : RL P r N ops (⟨some d, .indexAddr t x y, ty, pos, aft, gd⟩ :: rest) Q E ds M F :=
  RL.val rfl hg hN (fun ρ hρ w _ => by
    simp [execOp, hρ _ _ hx, hρ _ _ hy, Instr.indexAt, asIntOf, run_underlying (run_tySlice ht), h0, h1, run_sizeOf' hz, addr_add]) k
theorem RL.makeFunc {fn : Fn} {fs cs : List Operand} {fv cv : List Value} (hg : wantedG ops E gd = some true) (hf : evalArgs E fs = some fv) (hc : evalArgs E cs = some cv) (hN : Nat.ble (d + 1) N = true) (k : RL P r N ops rest Q ((d, .func fn fv.toArray cv.toArray) :: E) ds M F) : RL P r N ops (⟨some d, .makeFunc fn fs.toArray cs.toArray, ty, pos, aft, gd⟩ :: rest) Q E ds M F := by
  refine RL.step rfl hg fun a w hs hw => ?_
  have e : (execOp a.eval ⟨some d, .makeFunc fn fs.toArray cs.toArray, ty, pos, aft, gd⟩).run P w = .ok (.value (.func fn fv.toArray cv.toArray)) w := by
    simp [execOp, Instr.makeFunc, hs.args hf, hs.args hc]
  rw [e]
  exact k _ w (hs.put hN _) hw
def BinV (P : Program) (op : BinOp) (t : TypeId) (x y v : Value) : Prop := (∀ w, (binOp op t x y).run P w = .ok v w) ∧ ∀ (ox oy : Operand) w, (eqGuard op t ox oy x y).run P w = .ok () w
theorem RL.bin {op : BinOp} {t yt : TypeId} {x y : Operand} {vx vy v : Value} (hg : wantedG ops E gd = some true) (hx : evalO E x = some vx) (hy : evalO E y = some vy) (h : BinV P op t vx vy v) (hN : Nat.ble (d + 1) N = true) (k : RL P r N ops rest Q ((d, v) :: E) ds M F) : RL P r N ops (⟨some d, .binOp op t x y yt, ty, pos, aft, gd⟩ :: rest) Q E ds M F :=
  RL.val rfl hg hN (fun ρ hρ w _ => by
    have h1 := h.1 w
    have h2 := h.2 x y w
    simp [execOp, hρ _ _ hx, hρ _ _ hy, h1, h2]) k
end
theorem eqGuard_int {P : Program} {op : BinOp} {t : TypeId} {k k' : IntKind} {a b : Int} (ox oy : Operand) (w : World) : (eqGuard op t ox oy (.int k a) (.int k' b)).run P w = .ok () w := by
  unfold eqGuard; split <;> rfl
theorem eqGuard_str {P : Program} {op : BinOp} {t : TypeId} {a b : ByteArray} (ox oy : Operand) (w : World) : (eqGuard op t ox oy (.string a) (.string b)).run P w = .ok () w := by
  unfold eqGuard; split <;> rfl
theorem eqGuard_slice {P : Program} {op : BinOp} {t : TypeId} {a b : Option Addr} {l c l' c' : Nat} (ox oy : Operand) (w : World) : (eqGuard op t ox oy (.slice a l c) (.slice b l' c')).run P w = .ok () w := by
  unfold eqGuard; split <;> rfl
theorem eqGuard_ptr {P : Program} {op : BinOp} {t : TypeId} {a b : Option Addr} (ox oy : Operand) (w : World) : (eqGuard op t ox oy (.pointer a) (.pointer b)).run P w = .ok () w := by
  unfold eqGuard; split <;> rfl
theorem wrap64_id {n : Int} (h0 : -9223372036854775808 ≤ n) (h1 : n ≤ 9223372036854775807) : IntKind.i64.wrap n = n := by
  simp [IntKind.wrap, IntKind.bits, IntKind.signed]
  omega
section
variable {P : Program} {t : TypeId} {k : IntKind} {x y : Int}
theorem BinV.lss : BinV P .lss t (.int k x) (.int k y) (.bool (decide (x < y))) := ⟨fun w => by simp [binOp, Op.intCmp], fun _ _ _ => eqGuard_int _ _ _⟩
theorem BinV.leq : BinV P .leq t (.int k x) (.int k y) (.bool (decide (x ≤ y))) := ⟨fun w => by simp [binOp, Op.intCmp], fun _ _ _ => eqGuard_int _ _ _⟩
theorem BinV.gtr : BinV P .gtr t (.int k x) (.int k y) (.bool (decide (y < x))) := ⟨fun w => by simp [binOp, Op.intCmp], fun _ _ _ => eqGuard_int _ _ _⟩
theorem BinV.geq : BinV P .geq t (.int k x) (.int k y) (.bool (decide (y ≤ x))) := ⟨fun w => by simp [binOp, Op.intCmp], fun _ _ _ => eqGuard_int _ _ _⟩
theorem BinV.eql : BinV P .eql t (.int k x) (.int k y) (.bool (decide (x = y))) := ⟨fun w => by simp [binOp, Op.intCmp]; rfl, fun _ _ _ => eqGuard_int _ _ _⟩
theorem BinV.neq : BinV P .neq t (.int k x) (.int k y) (.bool (decide (x ≠ y))) := ⟨fun w => by
  by_cases h : x = y <;> simp [binOp, Op.intCmp, h], fun _ _ _ => eqGuard_int _ _ _⟩
theorem BinV.addW : BinV P .add t (.int k x) (.int k y) (.int k (k.wrap (x + y))) := ⟨fun w => by simp [binOp, Op.intArith], fun _ _ _ => eqGuard_int _ _ _⟩
theorem BinV.subW : BinV P .sub t (.int k x) (.int k y) (.int k (k.wrap (x - y))) := ⟨fun w => by simp [binOp, Op.intArith], fun _ _ _ => eqGuard_int _ _ _⟩
theorem BinV.mulW : BinV P .mul t (.int k x) (.int k y) (.int k (k.wrap (x * y))) := ⟨fun w => by simp [binOp, Op.intArith], fun _ _ _ => eqGuard_int _ _ _⟩
theorem BinV.add (z : Int) (h : x + y = z) (h0 : -9223372036854775808 ≤ z) (h1 : z ≤ 9223372036854775807) : BinV P .add t (.int .i64 x) (.int .i64 y) (.int .i64 z) := by
  have := BinV.addW (P := P) (t := t) (k := .i64) (x := x) (y := y); rwa [h, wrap64_id h0 h1] at this
theorem BinV.sub (z : Int) (h : x - y = z) (h0 : -9223372036854775808 ≤ z) (h1 : z ≤ 9223372036854775807) : BinV P .sub t (.int .i64 x) (.int .i64 y) (.int .i64 z) := by
  have := BinV.subW (P := P) (t := t) (k := .i64) (x := x) (y := y); rwa [h, wrap64_id h0 h1] at this
theorem BinV.mul (z : Int) (h : x * y = z) (h0 : -9223372036854775808 ≤ z) (h1 : z ≤ 9223372036854775807) : BinV P .mul t (.int .i64 x) (.int .i64 y) (.int .i64 z) := by
  have := BinV.mulW (P := P) (t := t) (k := .i64) (x := x) (y := y); rwa [h, wrap64_id h0 h1] at this
theorem BinV.quo (hy : y ≠ 0) (z : Int) (h : x.tdiv y = z) (h0 : -9223372036854775808 ≤ z) (h1 : z ≤ 9223372036854775807) : BinV P .quo t (.int .i64 x) (.int .i64 y) (.int .i64 z) :=
  ⟨fun w => by simp [binOp, Op.intDiv, hy, h, wrap64_id h0 h1], fun _ _ _ => eqGuard_int _ _ _⟩
theorem BinV.rem (hy : y ≠ 0) : BinV P .rem t (.int k x) (.int k y) (.int k (x.tmod y)) :=
  ⟨fun w => by simp [binOp, Op.intDiv, hy], fun _ _ _ => eqGuard_int _ _ _⟩
end
end Go.GL

namespace Go.GL
def YSpec (P : Program) (l : Nat) (args : List Value) (M : List HP) (F : List Fact) (M' : List HP) : Prop :=
  ∀ w, St w M F → ∃ fn tmps assign body, (Instr.yield l args.toArray).run P w = .ok (.round l fn tmps assign body) w ∧
    RoundIn (Wd none) 0 P l fn tmps assign body w (Post (ι := Unit) (fun _ => .bool true) (fun _ => M') (fun _ => F))
theorem YSpec.frame {P : Program} {l : Nat} {args : List Value} {G : List Fact} (L : List HP) {J J' Mi : List HP} (h : YSpec P l args (J ++ (L ++ Mi)) G (J' ++ (L ++ Mi))) : YSpec P l args (L ++ (J ++ Mi)) G (L ++ (J' ++ Mi)) := fun w hw => by
  obtain ⟨fn, tmps, assign, body, hy, hR⟩ := h w (hw.perm (perm_mid _ _ _))
  refine ⟨fn, tmps, assign, body, hy, hR.mono fun e w' hp => ?_⟩
  obtain ⟨i, he, hs⟩ := hp
  exact ⟨i, he, hs.perm (perm_mid _ _ _).symm⟩
def IterC (P : Program) (gf : FuncId) (cap : List Value) {α : Type} (enc : α → List Value → Prop) (xs : List α) (F : List Fact) : Prop :=
  ∀ (l : Nat) (J : List α → List HP),
    (∀ pre x suf args, xs = pre ++ x :: suf → enc x args → ∀ Mi G, (∀ φ, φ ∈ F → φ ∈ G) → YSpec P l args (J pre ++ Mi) G (J (pre ++ [x]) ++ Mi)) →
    ∀ Mi G, (∀ φ, φ ∈ F → φ ∈ G) → Ctr P gf (.func (.yield l) #[] #[] :: cap) (J [] ++ Mi) G Unit (fun _ => .tuple #[]) (fun _ => J xs ++ Mi) (fun _ => G)
def RoundQ (M : List HP) (G : List Fact) : Exit → Act → World → Prop
  | .normal, _, w => St w M G
  | _, _, _ => False
def envAt : List Nat → List Value → Env → Env
  | p :: ps, v :: vs, E => envAt ps vs ((p, v) :: E)
  | _, _, E => E
section
variable {P : Program} {r : Option Nat} {N : Nat} {ops : Array Oper} {rest : List Oper} {Q : Exit → Act → World → Prop} {E : Env} {ds : List Deferred} {M : List HP} {F : List Fact}
variable {d : Nat} {ty : TypeId} {pos : String} {aft : Array Edge} {gd : Option (Nat × Bool)}
theorem RL.callYield {cal : Operand} {asx : List Operand} {ats : Array TypeId} {vs : List Value} {l : Nat} {M' : List HP}
    (hg : wantedG ops E gd = some true) (hc : evalO E cal = some (.func (.yield l) #[] #[])) (ha : evalArgs E asx = some vs) (hN : Nat.ble (d + 1) N = true)
    (h : YSpec P l vs M F M') (k : RL P r N ops rest Q ((d, .bool true) :: E) ds M' F) :
    RL P r N ops (⟨some d, .call ⟨.value cal, asx.toArray, ats⟩, ty, pos, aft, gd⟩ :: rest) Q E ds M F := by
  refine RL.step rfl hg fun a w hs hw => ?_
  obtain ⟨fn, tmps, assign, body, hy, hR⟩ := h w hw
  have e1 : (execOp a.eval ⟨some d, .call ⟨.value cal, asx.toArray, ats⟩, ty, pos, aft, gd⟩).run P w = .ok (.round l fn tmps assign body) w := by
    simp [execOp, resolve, hs.eval hc, hs.args ha, Deferred.ofValue, invoke, hy]
  rw [e1]
  refine ⟨fun h => by simp at h, hR.1, fun c cs hr => ?_⟩
  obtain ⟨e, w', ⟨i, he, hst⟩, rest'⟩ := hR.2 c cs hr
  subst he
  exact ⟨.returned (.bool true), w', k _ w' (hs.put hN _) hst, rest'⟩
theorem Sat.ends {a : Act} (h : Sat N E ds a) (ds' : List Deferred) : Sat N E ds' { a with defers := ds' } := ⟨h.size, rfl, h.get⟩
theorem Sat.params : ∀ (ps : List Nat) (vs : List Value) {E : Env} {t : Array Value}, Sat N E [] ⟨t, []⟩ → (∀ p, p ∈ ps → Nat.ble (p + 1) N = true) → Sat N (envAt ps vs E) [] ⟨(ps.zip vs).foldl (fun t (p, v) => t.setIfInBounds p v) t, []⟩
  | [], _, _, _, h, _ => by simpa [envAt] using h
  | p :: ps, [], _, _, h, _ => by simpa [envAt] using h
  | p :: ps, v :: vs, _, t, h, hp => by
    have h1 := h.put (hp p (by simp)) v
    exact Sat.params ps vs h1 (fun q hq => hp q (by simp [hq]))
theorem St.putObj {w : World} {b : Nat} {o o' : Obj} {i : Nat} (h : St w M F) (hi : M[i]? = some (Pts b o)) : St (w.putObj b o') (M.set i (Pts b o')) F := by
  have hb := h.heap hi
  exact h.putHeap hi rfl rfl rfl (by simp) (World.putObj_heap_same (Array.getElem?_eq_some_iff.1 hb).1) fun c hc => World.putObj_heap_other hc
theorem TR.rangeFunc {α : Type} {g : Operand} {ps : List Nat} {assign body : Code} {gf : FuncId} {cap : List Value} {enc : α → List Value → Prop} {xs : List α} {κ : Type}
    (hg : evalO E g = some (.func (.func gf) #[] cap.toArray)) (hcall : ∀ args w, (callFunc gf args).run P w = .ok (.enter gf args) w) (hps : ∀ p, p ∈ ps → Nat.ble (p + 1) N = true) (hlen : ∀ x args, enc x args → args.length = ps.length)
    (hit : IterC P gf cap enc xs F) (J : List α → List HP) (Mr : List HP) (hJ : ∀ w, St w M F → St w (J [] ++ Mr) F)
    (E1 : List α → α → List Value → κ → Env) (M1 : List α → α → List Value → κ → List HP)
    (hassign : ∀ l pre x suf args, xs = pre ++ x :: suf → enc x args → ∀ Mi G, (∀ φ, φ ∈ F → φ ∈ G) →
      TR P (some l) N assign (Exit.then (fun a w => ∃ i, Sat N (E1 pre x args i) [] a ∧ St w (M1 pre x args i ++ Mi) G) (fun _ _ _ => False)) (envAt ps args E) [] (J pre ++ Mi) G)
    (hbody : ∀ l pre x suf args i, xs = pre ++ x :: suf → enc x args → ∀ Mi G, (∀ φ, φ ∈ F → φ ∈ G) →
      TR P (some l) N body (RoundQ (J (pre ++ [x]) ++ Mi) G) (E1 pre x args i) [] (M1 pre x args i ++ Mi) G)
    (k : ∀ D, NX N .normal Q E ({ target := .collected D, args := #[] } :: ds) (Pts D (.deferred (some [])) :: (J xs ++ Mr)) F) :
    TR P none N (.rangeFunc g ps.toArray assign body) Q E ds M F := by
  intro a w ha hw
  refine wpIn_rangeFunc fun fn _ => ?_
  obtain ⟨rec, hrec⟩ : ∃ rec : LoopState → Option Code → Loop, rec = fun st pe => { state := st, pending := pe, fn, tmps := a.tmps, params := ps.toArray, assign, body, defers := w.heap.size } := ⟨_, rfl⟩
  obtain ⟨W1, hW1⟩ : ∃ W1, W1 = (w.alloc (.deferred (some []))).alloc (.loop (rec .ready none)) := ⟨_, rfl⟩
  have h1 : St W1 (Pts (w.heap.size + 1) (.loop (rec .ready none)) :: Pts w.heap.size (.deferred (some [])) :: (J [] ++ Mr)) F := by
    have := ((hJ w hw).alloc (.deferred (some []))).alloc (.loop (rec .ready none))
    rw [World.size_alloc] at this
    rw [hW1]
    exact this
  refine ⟨w.heap.size + 1, [{ target := .collected w.heap.size, args := #[] }], W1, { target := .fn (.func gf) cap.toArray, args := #[.func (.yield (w.heap.size + 1)) #[] #[]] }, W1, gf,
    (.func (.yield (w.heap.size + 1)) #[] #[] :: cap).toArray, W1, ?_, ?_, fun _ _ => trivial, ?_, fun h => by simp at h, ?_⟩
  · rw [hW1, hrec]; exact run_enterLoop_outer _ _ _ _ _
  · have e0 := ha.eval hg
    have e1 : a.eval (.const (.func (.yield (w.heap.size + 1)) #[] #[])) = .func (.yield (w.heap.size + 1)) #[] #[] := rfl
    simp only [resolve, e0, Deferred.ofValue]
    simp [e1]
  · simp [invoke, hcall]
  · have hJ' := hit (w.heap.size + 1) (fun pre => Pts (w.heap.size + 1) (.loop (rec .ready none)) :: J pre) ?_ (Pts w.heap.size (.deferred (some [])) :: Mr) F (fun _ h => h)
    · have hp : ∀ (r : HP) (L : List HP), (r :: Pts w.heap.size (.deferred (some [])) :: (L ++ Mr)).Perm ((r :: L) ++ (Pts w.heap.size (.deferred (some [])) :: Mr)) := fun r L => (List.perm_middle.symm).cons r
      obtain ⟨hF, hc⟩ := hJ' _ (h1.perm (hp _ _))
      refine ⟨hF, fun cs hr => ?_⟩
      obtain ⟨e, w', fr, ⟨_, he, hst⟩, rest'⟩ := hc cs hr
      subst he
      refine ⟨_, w', fr, ?_, rest'⟩
      have hst' := hst.perm (hp _ _).symm
      have hl := hst'.heap (i := 0) rfl
      refine ⟨none, _, by have := run_endLoop (P := P) hl (by rw [hrec]; simp); rw [hrec] at this; exact this, ?_⟩
      exact k w.heap.size _ _ (ha.ends _) ((hst'.putObj (i := 0) rfl).tail) |> fun h => by rw [ha.defers]; exact h
    · intro pre x suf args hx he Mi G hG W hW
      have hW : St W (Pts (w.heap.size + 1) (.loop (rec .ready none)) :: (J pre ++ Mi)) G := hW
      have hl := hW.heap (i := 0) rfl
      have hy := run_yield (P := P) (args := args.toArray) hl (by rw [hrec]; simp [hlen x args he])
      rw [hrec] at hy
      refine ⟨fn, _, assign, body, hy, roundIn_of_wpIn (F := Wd none) trivial ?_⟩
      have hS : Sat N (envAt ps args E) [] ⟨(ps.zip args).foldl (fun t (p, v) => t.setIfInBounds p v) a.tmps, []⟩ := Sat.params ps args (ha.ends []) hps
      have hz : ((ps.toArray.zip args.toArray).foldl (fun tmps (t, a) => tmps.setIfInBounds t a) a.tmps) = (ps.zip args).foldl (fun t (p, v) => t.setIfInBounds p v) a.tmps := by simp
      have hper : ∀ (r : HP) (L L' : List HP), (r :: (L ++ L')).Perm (L ++ (r :: L')) := fun r L L' => List.perm_middle.symm
      refine wpIn_mono (hassign (w.heap.size + 1) pre x suf args hx he (Pts (w.heap.size + 1) (.loop (rec .ready none)) :: Mi) G hG _ W (by simp only; rw [hz]; exact hS) (hW.perm (hper _ _ _))) ?_
      intro e a1 w1 hq
      cases e with
      | normal =>
        obtain ⟨i, hs1, hw1⟩ := hq
        have hw1' := hw1.perm (hper _ _ _).symm
        have hl1 := hw1'.heap (i := 0) rfl
        refine ⟨_, run_beginRound hl1 (by rw [hrec]), ?_⟩
        have hw2 := (hw1'.putObj (o' := .loop { rec .ready none with state := .busy }) (i := 0) rfl)
        refine wpIn_mono (hbody (w.heap.size + 1) pre x suf args i hx he (Pts (w.heap.size + 1) (.loop { rec .ready none with state := .busy }) :: Mi) G hG a1 _ hs1 (hw2.perm (hper _ _ _))) ?_
        intro e a3 w3 hq3
        cases e with
        | normal =>
          have hw3 : St w3 (J (pre ++ [x]) ++ (Pts (w.heap.size + 1) (.loop { rec .ready none with state := .busy }) :: Mi)) G := hq3
          have hw3' := hw3.perm (hper _ _ _).symm
          have hl3 := hw3'.heap (i := 0) rfl
          refine ⟨_, _, run_endRound none hl3, (), rfl, ?_⟩
          have := hw3'.putObj (o' := .loop { rec .ready none with state := .ready }) (i := 0) rfl
          rw [hrec] at this ⊢
          exact this
        | _ => exact hq3.elim
      | _ => exact hq.elim
end
theorem Ctr.bodyM {P : Program} {f : FuncId} {fn : Func} {c : Code} {args : List Value} {M : List HP} {F : List Fact} {ι : Type} {val : ι → Value} {M' : ι → List HP} {F' : ι → List Fact} {N : Nat}
    (hf : P.funcs[f]? = some fn) (hb : fn.body = some c) (hN : fn.ntmps = N) (h : TR P none N c (bodyPostM (Wd none) 0 P fn (Post val M' F')) (envOf 0 args) [] M F) : Ctr P f args M F ι val M' F' := fun w hw => by
  refine callsIn_of_wp_marks hf hb trivial (h _ w ?_ hw)
  subst hN
  refine ⟨by simp; omega, rfl, fun k v hk => ?_⟩
  obtain ⟨_, h2⟩ := look_envOf args 0 k v hk
  have hlt : k < args.length := (List.getElem?_eq_some_iff.1 h2).1
  rw [Array.getElem?_append_left (by simpa using hlt)]
  simpa using h2
section
variable {P : Program} {N : Nat} {E : Env} {M : List HP} {F : List Fact}
theorem NX.retM {fn : Func} {t D : Nat} {v : Value} {ι : Type} {val : ι → Value} {M' : ι → List HP} {F' : ι → List Fact} (j : Nat) (i : ι) (hr : fn.results = #[.tmp t]) (ht : look E t = some v) (hD : M[j]? = some (Pts D (.deferred (some [])))) (hv : v = val i) (hS : ∀ w, St w (M.eraseIdx j) F → St w (M' i) (F' i)) :
    NX N .ret (bodyPostM (Wd none) 0 P fn (Post val M' F')) E [{ target := .collected D, args := #[] }] M F := fun a w ha hw => by
  show LeavesInM _ _ _ _ _ _ a.defers .returning w
  rw [ha.defers]
  have hd := hw.heap hD
  refine ⟨by simp, .inl ⟨D, _, rfl, run_takeDeferred hd, v, ?_, i, by rw [hv], hS _ ?_⟩⟩
  · rw [results_tmp hr]; simp [ha.get t v ht]
  · have h1 := hw.putObj (o' := .deferred none) hD
    have h2 : (M.set j (Pts D (.deferred none)))[j]? = some (Pts D (.deferred none)) := by
      rw [List.getElem?_set_self (List.getElem?_eq_some_iff.1 hD).1]
    have h3 := h1.drop j h2
    rwa [List.eraseIdx_set_eq] at h3
end
end Go.GL

namespace Go.GL
abbrev S (l : List UInt8) : Value := .string ⟨l.toArray⟩
abbrev I (n : Int) : Value := .int .i64 n
theorem S_size (l : List UInt8) : (⟨l.toArray⟩ : ByteArray).size = l.length := by simp [ByteArray.size]
inductive Tree where
  | node (id kind : Int) (text : List UInt8) (kids : List Tree)
namespace Tree
def id : Tree → Int | .node i _ _ _ => i
def kind : Tree → Int | .node _ k _ _ => k
def txt : Tree → List UInt8 | .node _ _ t _ => t
def kids : Tree → List Tree | .node _ _ _ ks => ks
def isLeaf (t : Tree) : Bool := decide (0 ≤ t.kind) && decide (t.kind ≤ 8)
mutual
def pre : Tree → List Tree
  | .node i k t ks => .node i k t ks :: preAll ks
def preAll : List Tree → List Tree
  | [] => []
  | t :: ts => pre t ++ preAll ts
end
mutual
def depth : Tree → Nat
  | .node _ _ _ ks => depthAll 0 ks + 1
def depthAll (m : Nat) : List Tree → Nat
  | [] => m
  | t :: ts => depthAll (max m (depth t)) ts
end
def leafText (t : Tree) : List UInt8 := if t.isLeaf then t.txt else []
def textOf (l : List Tree) : List UInt8 := l.flatMap leafText
def text (t : Tree) : List UInt8 := textOf (pre t)
end Tree
def CellsAt (w : World) (K : List Nat) (b off : Nat) (cs : List Value) : Prop :=
  b ∉ K ∧ b < w.heap.size ∧ ∀ j v, cs[j]? = some v → w.cell? ⟨b, off + j, none⟩ = some v
theorem CellsAt.mono {w w' K K' b off cs} (h : CellsAt w K b off cs) (e : Evo w K w' K') : CellsAt w' K' b off cs := by
  obtain ⟨h1, h2, h3⟩ := h
  have hs := e.same b h2 h1
  refine ⟨fun hk => ?_, Nat.lt_of_lt_of_le h2 e.size, fun j v hv => ?_⟩
  · rcases e.keys b hk with h | h
    · exact h1 h
    · omega
  · rw [World.cell?_of_block (w := w) (by exact hs)]
    exact h3 j v hv
mutual
def TreeAt (w : World) (K : List Nat) : Tree → Value → Prop
  | .node i k t ks, v => ∃ a len cap, v = .agg #[I i, I k, S t, .slice a len cap] ∧ len = ks.length ∧ len ≤ cap ∧ cap ≤ maxLen ∧ (len = 0 ∨ ∃ b off, a = some ⟨b, off, none⟩ ∧ KidsAt w K b off ks)
def KidsAt (w : World) (K : List Nat) (b off : Nat) : List Tree → Prop
  | [] => True
  | t :: ts => (∃ cs : List Value, CellsAt w K b off cs ∧ TreeAt w K t (.agg cs.toArray)) ∧ KidsAt w K b (off + 4) ts
end
mutual
theorem TreeAt.mono {w w' K K'} (e : Evo w K w' K') : ∀ {t : Tree} {v : Value}, TreeAt w K t v → TreeAt w' K' t v
  | .node i k t ks, v, h => by
    simp only [TreeAt] at h ⊢
    obtain ⟨a, len, cap, h1, h2, h3, h4, h5⟩ := h
    refine ⟨a, len, cap, h1, h2, h3, h4, ?_⟩
    rcases h5 with h | ⟨b, off, h5, h6⟩
    · exact .inl h
    · exact .inr ⟨b, off, h5, KidsAt.mono e h6⟩
theorem KidsAt.mono {w w' K K'} (e : Evo w K w' K') : ∀ {ts : List Tree} {b off : Nat}, KidsAt w K b off ts → KidsAt w' K' b off ts
  | [], _, _, _ => by simp only [KidsAt]
  | t :: ts, b, off, h => by
    simp only [KidsAt] at h ⊢
    obtain ⟨⟨cs, h1, h2⟩, h3⟩ := h
    exact ⟨⟨cs, h1.mono e, TreeAt.mono e h2⟩, KidsAt.mono e h3⟩
end
def CellsF (b off : Nat) (cs : List Value) : Fact := ⟨fun w K => CellsAt w K b off cs, fun h e => h.mono e⟩
theorem KidsAt.get {w K} : ∀ {ts : List Tree} {b off i : Nat} {t : Tree}, KidsAt w K b off ts → ts[i]? = some t → ∃ cs : List Value, CellsAt w K b (off + i * 4) cs ∧ TreeAt w K t (.agg cs.toArray)
  | u :: ts, b, off, 0, t, h, hi => by
    simp only [KidsAt] at h
    simp at hi
    subst hi
    exact h.1
  | u :: ts, b, off, i + 1, t, h, hi => by
    simp only [KidsAt] at h
    have := KidsAt.get (i := i) h.2 (by simpa using hi)
    rw [show off + (i + 1) * 4 = off + 4 + i * 4 from by omega]
    exact this
theorem run_loadCellsAt {P : Program} {w K b off t} {cs : List Value} (h : CellsAt w K b off cs) (ht : tyAgg P t cs.length = true) : Reads P w t ⟨b, off, none⟩ (.agg cs.toArray) :=
  run_loadVar_agg ht rfl fun j v hv => by rw [addr_add]; exact h.2.2 j v hv
theorem run_loadCell1 {P : Program} {w K b off t} {cs : List Value} {j : Nat} {v : Value} (h : CellsAt w K b off cs) (ht : tyScalar P t = true) (hj : cs[j]? = some v) : Reads P w t ⟨b, off + j, none⟩ v :=
  run_loadVar_scalar ht (h.2.2 j v hj)
theorem St.keep {w M F b t} {cs : List Value} (h : St w (Box b t cs :: M) F) : St w M (CellsF b 0 cs :: F) := by
  obtain ⟨K, ⟨K1, K2, e, ⟨h1, hb⟩, h2⟩, hn, hf⟩ := h
  subst h1; subst e
  obtain ⟨_, n2, n3⟩ := List.nodup_append.1 hn
  have hnb : b ∉ K2 := fun hb2 => n3 b (by simp) b hb2 rfl
  have hlt := (Array.getElem?_eq_some_iff.1 hb).1
  refine ⟨K2, h2, n2, fun φ hφ => ?_⟩
  rcases List.mem_cons.1 hφ with e | e
  · subst e
    exact ⟨hnb, hlt, fun j v hv => by rw [Nat.zero_add, cell_of_box hb]; exact hv⟩
  · exact φ.mono (hf φ e) ⟨rfl, rfl, rfl, Nat.le_refl _, fun _ _ _ => rfl, fun c hc => .inl (by simp [hc])⟩
theorem TreeAt.shape {w K t v} (h : TreeAt w K t v) : ∃ a len cap, v = .agg #[I t.id, I t.kind, S t.txt, .slice a len cap] ∧ len = t.kids.length ∧ len ≤ cap ∧ cap ≤ maxLen := by
  cases t with
  | node i k t ks =>
    simp only [TreeAt] at h
    obtain ⟨a, len, cap, h1, h2, h3, h4, _⟩ := h
    exact ⟨a, len, cap, h1, h2, h3, h4⟩
theorem TreeAt.kids {w K t a len cap c0 c1 c2} (h : TreeAt w K t (.agg #[c0, c1, c2, .slice a len cap])) : len = 0 ∨ ∃ b off, a = some ⟨b, off, none⟩ ∧ KidsAt w K b off t.kids := by
  cases t with
  | node i k t ks =>
    simp only [TreeAt] at h
    obtain ⟨a', len', cap', h1, h2, h3, h4, h5⟩ := h
    simp at h1
    obtain ⟨_, _, _, rfl, rfl, rfl⟩ := h1
    exact h5
abbrev nodeC (t : Tree) (a : Option Addr) (len cap : Nat) : List Value := [I t.id, I t.kind, S t.txt, .slice a len cap]
abbrev nodeV (t : Tree) (a : Option Addr) (len cap : Nat) : Value := .agg (nodeC t a len cap).toArray
theorem St.fact {w M F} {φ : Fact} (h : St w M F) (hφ : φ ∈ F) : ∃ K, φ.p w K := by
  obtain ⟨K, _, _, hf⟩ := h
  exact ⟨K, hf φ hφ⟩
end Go.GL

namespace Go.GL
def Ex {ι : Type} (M : ι → List HP) : HP where
  p w K := ∃ i, Own w (M i) K
  loc := fun ⟨i, h⟩ hs => ⟨i, h.loc hs⟩
  lt := fun ⟨_, h⟩ b hb => h.lt b hb
theorem St.exOpen {w : World} {ι : Type} {M0 : ι → List HP} {M : List HP} {F : List Fact} (h : St w (Ex M0 :: M) F) : ∃ i, St w (M0 i ++ M) F := by
  obtain ⟨K, ⟨K1, K2, e, ⟨i, h1⟩, h2⟩, hn, hf⟩ := h
  exact ⟨i, K, Own.append.2 ⟨K1, K2, e, h1, h2⟩, hn, hf⟩
theorem St.exClose {w : World} {ι : Type} {M0 : ι → List HP} {M : List HP} {F : List Fact} (i : ι) (h : St w (M0 i ++ M) F) : St w (Ex M0 :: M) F := by
  obtain ⟨K, ho, hn, hf⟩ := h
  obtain ⟨K1, K2, e, h1, h2⟩ := Own.append.1 ho
  exact ⟨K, ⟨K1, K2, e, ⟨i, h1⟩, h2⟩, hn, hf⟩
def OwnSl (e : TypeId) (size : Nat) (oa : Option Addr) (n cap : Nat) (xs : List Value) : HP where
  p w K := w.ownsRow 0 e size (.slice oa n cap) n xs ∧ K = (match oa with | some a => [a.block] | none => [])
  loc := fun {w w' K} ⟨h, hk⟩ hs => by
    refine ⟨⟨h.1, ?_⟩, hk⟩
    rcases h.2 with h2 | ⟨g, c, cur, hv, hb, hg, rest⟩
    · exact .inl h2
    · simp only [Value.slice.injEq] at hv
      obtain ⟨rfl, _, rfl⟩ := hv
      exact .inr ⟨g, cap, cur, rfl, hb, (hs g (by simp [hk])).trans hg, rest⟩
  lt := fun {w K} ⟨h, hk⟩ b hb => by
    rcases h.2 with ⟨hv, _⟩ | ⟨g, c, cur, hv, hb', hg, rest⟩
    · simp only [Value.slice.injEq] at hv
      obtain ⟨rfl, _, rfl⟩ := hv
      simp [hk] at hb
    · simp only [Value.slice.injEq] at hv
      obtain ⟨rfl, _, rfl⟩ := hv
      simp [hk] at hb
      subst hb
      exact (Array.getElem?_eq_some_iff.1 hg).1
def ArrAt (w : World) (K : List Nat) (oa : Option Addr) (xs : List Value) : Prop := xs = [] ∨ ∃ b off, oa = some ⟨b, off, none⟩ ∧ CellsAt w K b off xs
theorem ArrAt.mono {w w' K K' oa xs} (h : ArrAt w K oa xs) (e : Evo w K w' K') : ArrAt w' K' oa xs := by
  rcases h with h | ⟨b, off, h1, h2⟩
  · exact .inl h
  · exact .inr ⟨b, off, h1, h2.mono e⟩
def ArrF (oa : Option Addr) (xs : List Value) : Fact := ⟨fun w K => ArrAt w K oa xs, fun h e => h.mono e⟩
section
variable {w : World} {M : List HP} {F : List Fact} {e : TypeId} {size n cap : Nat} {oa : Option Addr} {xs : List Value}
theorem OwnSl.nil_new {w : World} {M : List HP} {F : List Fact} (e : TypeId) (size : Nat) (h : St w M F) : St w (OwnSl e size none 0 0 [] :: M) F := by
  obtain ⟨K, ho, hn, hf⟩ := h
  exact ⟨K, ⟨[], K, rfl, ⟨World.ownsRow_nil w 0 e size, rfl⟩, ho⟩, hn, hf⟩
theorem OwnSl.len {w : World} {K : List Nat} (h : (OwnSl e size oa n cap xs).p w K) : xs.length = n * size := h.1.1
theorem St.ownLen (h : St w (OwnSl e size oa n cap xs :: M) F) : xs.length = n * size ∧ n ≤ cap := by
  obtain ⟨K, ⟨K1, K2, _, h1, _⟩, _⟩ := h
  refine ⟨h1.1.1, ?_⟩
  rcases h1.1.2 with ⟨hv, h0⟩ | ⟨g, c, cur, hv, _, _, hc, _⟩
  · omega
  · simp only [Value.slice.injEq] at hv; omega
theorem OwnSl.cells {K : List Nat} (h : (OwnSl e size oa n cap xs).p w K) : ArrAt w [] oa xs := by
  obtain ⟨h, hk⟩ := h
  rcases h.2 with ⟨hv, h0⟩ | ⟨g, c, cur, hv, hb, hg, hc, hm, hs, ht⟩
  · subst h0
    exact .inl (List.eq_nil_of_length_eq_zero (by simpa using h.1))
  · simp only [Value.slice.injEq] at hv
    obtain ⟨rfl, _, rfl⟩ := hv
    refine .inr ⟨g, 0, rfl, by simp, (Array.getElem?_eq_some_iff.1 hg).1, fun j v hv => ?_⟩
    rw [Nat.zero_add, cell_of_row w g j cur e (0, 0) hg]
    rw [← ht, List.getElem?_take] at hv
    split at hv
    · simpa using hv
    · cases hv
theorem St.keepSl (h : St w (OwnSl e size oa n cap xs :: M) F) : St w M (ArrF oa xs :: F) := by
  obtain ⟨K, ⟨K1, K2, ee, h1, h2⟩, hn, hf⟩ := h
  subst ee
  obtain ⟨_, n2, n3⟩ := List.nodup_append.1 hn
  refine ⟨K2, h2, n2, fun φ hφ => ?_⟩
  rcases List.mem_cons.1 hφ with ee | ee
  · subst ee
    rcases OwnSl.cells h1 with h0 | ⟨b, off, ho, hc⟩
    · exact .inl h0
    · refine .inr ⟨b, off, ho, fun hb2 => ?_, hc.2.1, hc.2.2⟩
      have : K1 = [b] := by rw [h1.2, ho]
      exact n3 b (by simp [this]) b hb2 rfl
  · exact φ.mono (hf φ ee) ⟨rfl, rfl, rfl, Nat.le_refl _, fun _ _ _ => rfl, fun c hc => .inl (by simp [hc])⟩
theorem St.boxSl {b : Nat} {cs : List Value} (hsz : cs.length = n * size) (hm : n ≤ maxLen) (h : St w (Box b e cs :: M) F) : St w (OwnSl e size (some ⟨b, 0, none⟩) n n cs :: M) F :=
  h.turn rfl rfl rfl (Nat.le_refl _) fun K ⟨hK, hb⟩ => ⟨K, ⟨⟨hsz, .inr ⟨b, n, cs.toArray, rfl, Nat.zero_le _, hb, Nat.le_refl _, hm, by simpa using hsz, by simp [← hsz]⟩⟩, by simpa using hK⟩, by simp [hK], fun c hc => .inl hc, fun c _ _ => rfl⟩
end
section
variable {P : Program} {r : Option Nat} {N : Nat} {ops : Array Oper} {rest : List Oper} {Q : Exit → Act → World → Prop} {E : Env} {ds : List Deferred} {M : List HP} {F : List Fact}
variable {d : Nat} {ty : TypeId} {pos : String} {aft : Array Edge} {gd : Option (Nat × Bool)}
theorem RL.lenSlice {T e : TypeId} {x : Operand} {oa : Option Addr} {n cap : Nat} {aty : Array TypeId} (hg : wantedG ops E gd = some true) (ht : tySlice P T e = true) (hx : evalO E x = some (.slice oa n cap)) (hN : Nat.ble (d + 1) N = true) (k : RL P r N ops rest Q ((d, I n) :: E) ds M F) (hT : aty = #[T] := by rfl) : RL P r N ops (⟨some d, .call ⟨.builtin .len, #[x], aty⟩, ty, pos, aft, gd⟩ :: rest) Q E ds M F :=
  RL.val rfl hg hN (fun ρ hρ w _ => by
    subst hT
    simp [execOp, resolve, hρ _ _ hx, invoke, builtin, Builtin.len_, run_underlying (run_tySlice ht), goInt]) k
theorem RL.lenStr {T : TypeId} {x : Operand} {l : List UInt8} {aty : Array TypeId} (hg : wantedG ops E gd = some true) (ht : tyStr P T = true) (hx : evalO E x = some (S l)) (hN : Nat.ble (d + 1) N = true) (k : RL P r N ops rest Q ((d, I l.length) :: E) ds M F) (hT : aty = #[T] := by rfl) : RL P r N ops (⟨some d, .call ⟨.builtin .len, #[x], aty⟩, ty, pos, aft, gd⟩ :: rest) Q E ds M F :=
  RL.val rfl hg hN (fun ρ hρ w _ => by
    subst hT
    simp [execOp, resolve, hρ _ _ hx, invoke, builtin, Builtin.len_, run_underlying (tyStr_underlying ht), goInt, S_size]) k
theorem max_if (a b : Int) : (if b > a then b else a) = max a b := by rw [Int.max_def]; split <;> split <;> omega
theorem min_if (a b : Int) : (if b < a then b else a) = min a b := by rw [Int.min_def]; split <;> split <;> omega
theorem RL.max {x y : Operand} {k1 : IntKind} {a b : Int} {aty : Array TypeId} (hg : wantedG ops E gd = some true) (hx : evalO E x = some (.int k1 a)) (hy : evalO E y = some (.int k1 b)) (hN : Nat.ble (d + 1) N = true) (k : RL P r N ops rest Q ((d, .int k1 (max a b)) :: E) ds M F) : RL P r N ops (⟨some d, .call ⟨.builtin .max, #[x, y], aty⟩, ty, pos, aft, gd⟩ :: rest) Q E ds M F :=
  RL.val rfl hg hN (fun ρ hρ w _ => by
    simp [execOp, resolve, hρ _ _ hx, hρ _ _ hy, invoke, builtin, Builtin.max_, Builtin.max2, ← max_if]) k
theorem RL.min {x y : Operand} {k1 : IntKind} {a b : Int} {aty : Array TypeId} (hg : wantedG ops E gd = some true) (hx : evalO E x = some (.int k1 a)) (hy : evalO E y = some (.int k1 b)) (hN : Nat.ble (d + 1) N = true) (k : RL P r N ops rest Q ((d, .int k1 (min a b)) :: E) ds M F) : RL P r N ops (⟨some d, .call ⟨.builtin .min, #[x, y], aty⟩, ty, pos, aft, gd⟩ :: rest) Q E ds M F :=
  RL.val rfl hg hN (fun ρ hρ w _ => by
    simp [execOp, resolve, hρ _ _ hx, hρ _ _ hy, invoke, builtin, Builtin.min_, Builtin.min2, ← min_if]) k
theorem BinV.eqlS {t : TypeId} {a b : List UInt8} : BinV P .eql t (S a) (S b) (.bool (decide (a = b))) := ⟨fun w => by
  by_cases h : a = b <;> simp [binOp, Op.stringOp, h], fun _ _ _ => eqGuard_str _ _ _⟩
theorem BinV.neqS {t : TypeId} {a b : List UInt8} : BinV P .neq t (S a) (S b) (.bool (decide (a ≠ b))) := ⟨fun w => by
  by_cases h : a = b <;> simp [binOp, Op.stringOp, h], fun _ _ _ => eqGuard_str _ _ _⟩
theorem S_append (a b : List UInt8) : (⟨a.toArray⟩ : ByteArray) ++ ⟨b.toArray⟩ = ⟨(a ++ b).toArray⟩ := by
  apply ByteArray.ext
  simp
theorem BinV.addS {t : TypeId} {a b : List UInt8} (h : a.length + b.length ≤ 9223372036854775807) : BinV P .add t (S a) (S b) (S (a ++ b)) := ⟨fun w => by
  have : ¬ ((((⟨a.toArray⟩ : ByteArray).size + (⟨b.toArray⟩ : ByteArray).size : Nat) : Int) > IntKind.i64.max) := by
    rw [S_size, S_size]; simp [IntKind.max, IntKind.signed, IntKind.bits]; omega
  simp only [binOp, Op.stringOp, if_neg this, S_append]; rfl, fun _ _ _ => eqGuard_str _ _ _⟩
theorem equalIn_nilSlice {w : World} (n : Nat) {t e : TypeId} {oa : Option Addr} {l c : Nat} (h : P.underlying t = some (.slice e)) : (Op.equalIn (n + 1) t (.slice oa l c) (.slice none 0 0)).run P w = .ok oa.isNone w := by cases oa <;> simp [Op.equalIn, run_underlying h]
theorem BinV.eqlNil {t e : TypeId} {oa : Option Addr} {n c : Nat} (h : tySlice P t e = true) : BinV P .eql t (.slice oa n c) (.slice none 0 0) (.bool oa.isNone) := ⟨fun w => by
  simp [binOp, Op.equal, Op.maxDepth, equalIn_nilSlice 9999 (run_tySlice h)], fun _ _ _ => eqGuard_slice _ _ _⟩
theorem RL.indexS {T : TypeId} {x y : Operand} {l : List UInt8} {n : Int} {u : UInt8} (hg : wantedG ops E gd = some true) (ht : tyStr P T = true) (hx : evalO E x = some (S l)) (hy : evalO E y = some (I n)) (h0 : 0 ≤ n) (hu : l[n.toNat]? = some u) (hN : Nat.ble (d + 1) N = true) (k : RL P r N ops rest Q ((d, .int .u8 u.toNat) :: E) ds M F) : RL P r N ops (⟨some d, .index T x y, ty, pos, aft, gd⟩ :: rest) Q E ds M F :=
  RL.val rfl hg hN (fun ρ hρ w _ => by
    have hb : (⟨l.toArray⟩ : ByteArray)[n.toNat]? = some u := by
      have hlt := (List.getElem?_eq_some_iff.1 hu).1
      rw [getElem?_pos (⟨l.toArray⟩ : ByteArray) n.toNat (by rw [S_size]; exact hlt)]
      rw [List.getElem?_eq_getElem hlt] at hu
      exact hu
    simp [execOp, hρ _ _ hx, hρ _ _ hy, Instr.index, asIntOf, run_underlying (tyStr_underlying ht), h0, hb]) k
theorem RL.sliceS {T : TypeId} {x y z : Operand} {l : List UInt8} {i j : Int} (hg : wantedG ops E gd = some true) (ht : tyStr P T = true) (hx : evalO E x = some (S l)) (hy : evalO E y = some (I i)) (hz : evalO E z = some (I j)) (h0 : 0 ≤ i) (h1 : i ≤ j) (h2 : j ≤ l.length) (hN : Nat.ble (d + 1) N = true) (k : RL P r N ops rest Q ((d, S ((l.take j.toNat).drop i.toNat)) :: E) ds M F) : RL P r N ops (⟨some d, .slice T x (some y) (some z) none, ty, pos, aft, gd⟩ :: rest) Q E ds M F :=
  RL.val rfl hg hN (fun ρ hρ w _ => by
    have e : (⟨l.toArray⟩ : ByteArray).extract i.toNat j.toNat = ⟨((l.take j.toNat).drop i.toNat).toArray⟩ := by
      apply ByteArray.ext
      simp [ByteArray.data_extract, List.drop_take]
    have h3 : (0 : Int) ≤ j := by omega
    have h4 : ¬ Max.max j 0 < i := by omega
    simp [execOp, hρ _ _ hx, hρ _ _ hy, hρ _ _ hz, Instr.sliceAt, Instr.slice, Instr.sliceBounds, Instr.sliceBound, asIntOf, run_underlying (tyStr_underlying ht), S_size, h0, h2, h3, h4, e]) k
theorem RL.sliceSfrom {T : TypeId} {x y : Operand} {l : List UInt8} {i : Int} (hg : wantedG ops E gd = some true) (ht : tyStr P T = true) (hx : evalO E x = some (S l)) (hy : evalO E y = some (I i)) (h0 : 0 ≤ i) (h2 : i ≤ l.length) (hN : Nat.ble (d + 1) N = true) (k : RL P r N ops rest Q ((d, S (l.drop i.toNat)) :: E) ds M F) : RL P r N ops (⟨some d, .slice T x (some y) none none, ty, pos, aft, gd⟩ :: rest) Q E ds M F :=
  RL.val rfl hg hN (fun ρ hρ w _ => by
    have e : (⟨l.toArray⟩ : ByteArray).extract i.toNat l.length = ⟨(l.drop i.toNat).toArray⟩ := by
      apply ByteArray.ext
      simp [ByteArray.data_extract]
      exact List.take_of_length_le (by simp)
    simp [execOp, hρ _ _ hx, hρ _ _ hy, Instr.sliceAt, Instr.slice, Instr.sliceBounds, Instr.sliceBound, asIntOf, run_underlying (tyStr_underlying ht), S_size, h0, h2, e]) k
theorem RL.sliceSto {T : TypeId} {x z : Operand} {l : List UInt8} {j : Int} (hg : wantedG ops E gd = some true) (ht : tyStr P T = true) (hx : evalO E x = some (S l)) (hz : evalO E z = some (I j)) (h0 : 0 ≤ j) (h2 : j ≤ l.length) (hN : Nat.ble (d + 1) N = true) (k : RL P r N ops rest Q ((d, S (l.take j.toNat)) :: E) ds M F) : RL P r N ops (⟨some d, .slice T x none (some z) none, ty, pos, aft, gd⟩ :: rest) Q E ds M F :=
  RL.val rfl hg hN (fun ρ hρ w _ => by
    have e : (⟨l.toArray⟩ : ByteArray).extract 0 j.toNat = ⟨(l.take j.toNat).toArray⟩ := by
      apply ByteArray.ext
      simp [ByteArray.data_extract]
    simp [execOp, hρ _ _ hx, hρ _ _ hz, Instr.sliceAt, Instr.slice, Instr.sliceBounds, Instr.sliceBound, asIntOf, run_underlying (tyStr_underlying ht), S_size, h0, h2, e]) k
def cutA (oa : Option Addr) (l cap size : Nat) : Option Addr := if cap = l then oa else oa.map (·.add (l * size))
theorem RL.sliceLH {T e : TypeId} {x : Operand} {lo hi : Option Operand} {oa : Option Addr} {n cap size l h : Nat} (hg : wantedG ops E gd = some true) (ht : tySlice P T e = true) (hz : tySize P e size = true) (hx : evalO E x = some (.slice oa n cap))
    (hlo : (lo = none ∧ l = 0) ∨ ∃ o, lo = some o ∧ evalO E o = some (I l)) (hhi : (hi = none ∧ h = n) ∨ ∃ o, hi = some o ∧ evalO E o = some (I h)) (h1 : l ≤ h) (h2 : h ≤ cap) (hN : Nat.ble (d + 1) N = true) (k : RL P r N ops rest Q ((d, .slice (cutA oa l cap size) (h - l) (cap - l)) :: E) ds M F) : RL P r N ops (⟨some d, .slice T x lo hi none, ty, pos, aft, gd⟩ :: rest) Q E ds M F :=
  RL.val rfl hg hN (fun ρ hρ w _ => by
    have h3 : ¬ cap < h := by omega
    have h4 : ¬ h < l := by omega
    rcases hlo with ⟨rfl, rfl⟩ | ⟨o, rfl, ho⟩ <;> rcases hhi with ⟨rfl, rfl⟩ | ⟨o', rfl, ho'⟩
    · simp [execOp, hρ _ _ hx, Instr.sliceAt, Instr.slice, Instr.sliceBounds, run_underlying (run_tySlice ht), run_sizeOf' hz, cutA]
    · simp [execOp, hρ _ _ hx, hρ _ _ ho', Instr.sliceAt, Instr.slice, Instr.sliceBounds, Instr.sliceBound, asIntOf, run_underlying (run_tySlice ht), run_sizeOf' hz, h3, cutA]
    · simp [execOp, hρ _ _ hx, hρ _ _ ho, Instr.sliceAt, Instr.slice, Instr.sliceBounds, Instr.sliceBound, asIntOf, run_underlying (run_tySlice ht), run_sizeOf' hz, h4, cutA]
    · simp [execOp, hρ _ _ hx, hρ _ _ ho, hρ _ _ ho', Instr.sliceAt, Instr.slice, Instr.sliceBounds, Instr.sliceBound, asIntOf, run_underlying (run_tySlice ht), run_sizeOf' hz, h1, h2, cutA]) k
theorem ArrAt.cut {w : World} {K : List Nat} {oa : Option Addr} {xs : List Value} {n cap size : Nat} (h : ArrAt w K oa xs) (l h' : Nat) (hx : xs.length = n * size) (h2 : h' ≤ n) (h3 : n ≤ cap) :
    ArrAt w K (cutA oa l cap size) ((xs.take (h' * size)).drop (l * size)) := by
  by_cases h0 : (xs.take (h' * size)).drop (l * size) = []
  · exact .inl h0
  · rcases h with rfl | ⟨b, off, rfl, hc⟩
    · simp at h0
    · have hlt : l * size < h' * size := by
        rcases Nat.lt_or_ge (l * size) (h' * size) with h | h
        · exact h
        · exact absurd (List.drop_of_length_le (by rw [List.length_take]; omega)) h0
      have hlh : l < h' := Nat.lt_of_mul_lt_mul_right hlt
      refine .inr ⟨b, off + l * size, ?_, hc.1, hc.2.1, fun j v hv => ?_⟩
      · unfold cutA
        rw [if_neg (by omega)]
        simp [addr_add]
      · rw [List.getElem?_drop, List.getElem?_take] at hv
        split at hv
        · rw [Nat.add_assoc]; exact hc.2.2 _ v hv
        · cases hv
def BuildV (P : Program) (t : TypeId) (parts : List (Nat × Value)) (v : Value) : Prop := ∀ w, (Instr.build t parts.toArray).run P w = .ok v w
def evalParts (E : Env) : List (Nat × Operand) → Option (List (Nat × Value))
  | [] => some []
  | (i, o) :: ps => match evalO E o, evalParts E ps with
    | some v, some vs => some ((i, v) :: vs)
    | _, _ => none
theorem evalParts_map {ρ : Operand → Value} (hρ : ∀ x u, evalO E x = some u → ρ x = u) : ∀ {ps : List (Nat × Operand)} {vs : List (Nat × Value)}, evalParts E ps = some vs → ps.map (fun x => (x.1, ρ x.2)) = vs
  | [], vs, h => by simpa [evalParts] using h
  | (i, o) :: ps, vs, h => by
    simp only [evalParts] at h
    cases h1 : evalO E o with
    | none => rw [h1] at h; cases h
    | some v =>
      cases h2 : evalParts E ps with
      | none => rw [h1, h2] at h; cases h
      | some us =>
        rw [h1, h2] at h
        simp at h
        subst h
        simp [hρ _ _ h1, evalParts_map hρ h2]
theorem RL.build {T : TypeId} {ps : List (Nat × Operand)} {vs : List (Nat × Value)} {v : Value} (hg : wantedG ops E gd = some true) (hp : evalParts E ps = some vs) (hb : BuildV P T vs v) (hN : Nat.ble (d + 1) N = true) (k : RL P r N ops rest Q ((d, v) :: E) ds M F) : RL P r N ops (⟨some d, .build T ps.toArray, ty, pos, aft, gd⟩ :: rest) Q E ds M F :=
  RL.val rfl hg hN (fun ρ hρ w _ => by
    have := hb w
    simp [execOp, evalParts_map hρ hp, this]) k
def BuildSV (P : Program) (t e : TypeId) (len : Nat) (parts : List (Nat × Value)) (cs : List Value) : Prop := ∀ w, (Instr.buildSlice t len parts.toArray).run P w = .ok (.slice (some ⟨w.heap.size, 0, none⟩) len len) (w.alloc (.cells cs.toArray e))
theorem RL.buildSlice {T e : TypeId} {len : Nat} {ps : List (Nat × Operand)} {vs : List (Nat × Value)} {cs : List Value} (hg : wantedG ops E gd = some true) (hp : evalParts E ps = some vs) (hb : BuildSV P T e len vs cs) (hN : Nat.ble (d + 1) N = true) (k : ∀ b, RL P r N ops rest Q ((d, .slice (some ⟨b, 0, none⟩) len len) :: E) ds (Box b e cs :: M) F) : RL P r N ops (⟨some d, .buildSlice T len ps.toArray, ty, pos, aft, gd⟩ :: rest) Q E ds M F :=
  RL.gen (ι := Nat) (val := fun b => .slice (some ⟨b, 0, none⟩) len len) (M' := fun b => Box b e cs :: M) (F' := fun _ => F) rfl hg hN (fun ρ hρ w hw =>
    ⟨w.heap.size, _, by simp [execOp, evalParts_map hρ hp, hb w], hw.alloc _⟩) k
end
end Go.GL

namespace Go.GL
def readyB (ops : Array Oper) (S : List Nat) (i : Nat) : Bool :=
  !S.contains i && (match ops[i]? with | some o => o.after.all fun e => !Region.binds .any e || S.contains e.on | none => false)
def stepI (r : Option Nat) (P : Program) (ops : Array Oper) (Q : Exit → Act → World → Prop) (i : Nat) (a : Act) (w : World) (K : Act → World → Prop) : Prop :=
  ∃ o, ops[i]? = some o ∧ (if Region.wanted o (yielded ops a.tmps) then o.wpIn (Wd r) 0 P a w K Q else K (a.put o.dst undef) w)
def AO (r : Option Nat) (P : Program) (ops : Array Oper) (Q : Exit → Act → World → Prop) : Nat → List Nat → Act → World → Prop
  | 0, _, a, w => Q .normal a w
  | n + 1, S, a, w => (∃ i, i < ops.size ∧ readyB ops S i = true) ∧ ∀ i, i < ops.size → readyB ops S i = true → stepI r P ops Q i a w (AO r P ops Q n (i :: S))
theorem uponIn_mono {F : Fence} {n : Nat} {P : Program} {o : Oper} {a : Act} {K K' : Act → World → Prop} {Q : Exit → Act → World → Prop} (hk : ∀ a w, K a w → K' a w) {res : Result Next} (h : o.uponIn F n P a K Q res) : o.uponIn F n P a K' Q res := by
  unfold Oper.uponIn at h ⊢
  split at h
  · exact hk _ _ h
  · exact hk _ _ h
  · exact hk _ _ h
  · refine ⟨h.1, h.2.1, fun cs hr => ?_⟩
    obtain ⟨e, w', fr, hR, rest⟩ := h.2.2 cs hr
    refine ⟨e, w', fr, ?_, rest⟩
    cases e with
    | returned v => exact hk _ _ hR
    | panicked c => exact hR
    | outgrown => exact hR
  · exact ⟨h.1, h.2.mono fun v w' hv => hk _ _ hv⟩
  · refine ⟨h.1, h.2.mono fun e w' hv => ?_⟩
    cases e with
    | returned v => exact hk _ _ hv
    | panicked c => exact hv
    | outgrown => exact hv
  · exact h
  · exact h.elim
theorem stepI_mono {r P ops Q i a w} {K K' : Act → World → Prop} (hk : ∀ a w, K a w → K' a w) (h : stepI r P ops Q i a w K) : stepI r P ops Q i a w K' := by
  obtain ⟨o, ho, h⟩ := h
  refine ⟨o, ho, ?_⟩
  split at h
  · rename_i hw; rw [if_pos hw]; exact ⟨h.1, uponIn_mono hk h.2⟩
  · rename_i hw; rw [if_neg hw]; exact hk _ _ h
def lin (ops : Array Oper) : Nat → Nat → Array Bool → List Nat
  | 0, _, _ => []
  | fuel + 1, t, listed =>
    let rs := (List.range ops.size).filter fun i => !listed.getD i true && ((ops[i]?).map (·.after.all fun e => !Region.binds .any e || listed.getD e.on false)).getD false
    match rs[t % rs.length]? with
    | some i => i :: lin ops fuel (t / rs.length) (listed.setIfInBounds i true)
    | none => []
theorem go_lin (ops : Array Oper) : ∀ (fuel t : Nat) (listed : Array Bool) (acc : List Nat), Region.linearise.go .any ops fuel t listed acc = acc.reverse ++ lin ops fuel t listed
  | 0, t, listed, acc => by simp [Region.linearise.go, lin]
  | fuel + 1, t, listed, acc => by
    simp only [Region.linearise.go, lin]
    split
    · rename_i i hi
      rw [go_lin ops fuel, hi]
      simp
    · rename_i hi
      rw [hi]
      simp
theorem wp_any {r P ops Q} : ∀ (fuel : Nat) (S : List Nat) (a : Act) (w : World) (t : Nat) (listed : Array Bool), AO r P ops Q fuel S a w → listed.size = ops.size → (∀ i, listed.getD i false = S.contains i) → wpOpsIn (Wd r) 0 P ops Q (lin ops fuel t listed) a w
  | 0, S, a, w, t, listed, h, _, _ => h
  | fuel + 1, S, a, w, t, listed, h, hl, hm => by
    obtain ⟨⟨i0, hi0, hr0⟩, h⟩ := h
    have hf : ∀ i, i < ops.size → (!listed.getD i true && ((ops[i]?).map (·.after.all fun e => !Region.binds .any e || listed.getD e.on false)).getD false) = readyB ops S i := by
      intro i hi
      have h1 : listed.getD i true = S.contains i := by
        rw [← hm i]
        simp [hl, hi]
      rw [h1]
      unfold readyB
      cases ho : ops[i]? with
      | none => rfl
      | some o => simp only [hm, Option.map_some, Option.getD_some]
    simp only [lin]
    have hmem : i0 ∈ (List.range ops.size).filter fun i => !listed.getD i true && ((ops[i]?).map (·.after.all fun e => !Region.binds .any e || listed.getD e.on false)).getD false := by
      rw [List.mem_filter]
      exact ⟨List.mem_range.2 hi0, (hf i0 hi0).trans hr0⟩
    have key : ∀ rs : List Nat, i0 ∈ rs → (∀ i, i ∈ rs → i < ops.size ∧ readyB ops S i = true) →
        wpOpsIn (Wd r) 0 P ops Q (match rs[t % rs.length]? with | some i => i :: lin ops fuel (t / rs.length) (listed.setIfInBounds i true) | none => []) a w := by
      intro rs hmem hall
      have hlt : t % rs.length < rs.length := Nat.mod_lt _ (List.length_pos_of_mem hmem)
      rw [List.getElem?_eq_getElem hlt]
      obtain ⟨hi1, hrd⟩ := hall _ (List.getElem_mem hlt)
      generalize rs[t % rs.length] = i at *
      have hst := h i hi1 hrd
      have := stepI_mono (fun a w hk => wp_any fuel (i :: S) a w (t / rs.length) (listed.setIfInBounds i true) hk (by simpa using hl) (fun j => by
        by_cases e : i = j
        · subst e; simp [hl, hi1]
        · have h2 := hm j
          simp only [Array.getD_eq_getD_getElem?, Array.getElem?_setIfInBounds, e, if_false, List.contains_cons] at h2 ⊢
          rw [h2]
          have : (j == i) = false := by simp; exact fun h => e h.symm
          simp [this])) hst
      obtain ⟨o, ho, hs⟩ := this
      simp only [wpOpsIn, ho]
      split at hs
      · rename_i hw; rw [if_pos hw]; exact hs
      · rename_i hw; rw [if_neg hw]; exact ⟨fun _ _ => trivial, hs⟩
    refine key _ hmem fun i hi => ?_
    rw [List.mem_filter] at hi
    have hi1 := List.mem_range.1 hi.1
    exact ⟨hi1, (hf i hi1).symm.trans hi.2⟩
def EV (P : Program) (r : Option Nat) (Q : Exit → Act → World → Prop) (E : Env) (M : List HP) (F : List Fact) (o : Oper) (ι : Type) (val : ι → Value) (M' : ι → List HP) (F' : ι → List Fact) : Prop :=
  isDefer o.op = false ∧ ∀ a w next, (∀ x u, evalO E x = some u → a.eval x = u) → St w M F → (∀ i w', St w' (M' i) (F' i) → next (a.put o.dst (val i)) w') → o.uponIn (Wd r) 0 P a next Q ((execOp a.eval o).run P w)
def PV (P : Program) (E : Env) (M : List HP) (F : List Fact) (o : Oper) (v : Value) : Prop :=
  isDefer o.op = false ∧ ∀ ρ : Operand → Value, (∀ x u, evalO E x = some u → ρ x = u) → ∀ w, St w M F → (execOp ρ o).run P w = .ok (.value v) w
def envD (ops : Array Oper) (V : Env) : List Nat → Env
  | [] => []
  | j :: js => match (ops[j]?).bind (·.dst), look V j with
    | some d, some v => (d, v) :: envD ops V js
    | _, _ => envD ops V js
def depsOf (ops : Array Oper) (i : Nat) : List Nat := match ops[i]? with
  | some o => (o.after.toList.filter (Region.binds .any)).map (·.on)
  | none => []
def lastB (ops : Array Oper) (i : Nat) : Bool := (List.range ops.size).all fun j => j == i || (depsOf ops i).contains j
def freshAt (ops : Array Oper) (E : Env) (i : Nat) : Bool := match (ops[i]?).bind (·.dst) with
  | some d => (look E d).isNone
  | none => true
def slotsOk (ops : Array Oper) (E : Env) (N : Nat) : Bool :=
  let ds := ops.toList.filterMap (·.dst)
  ds.Nodup && (ds.all (fun d => Nat.ble (d + 1) N) && (List.range ops.size).all fun i => freshAt ops E i || lastB ops i)
def keepE (ops : Array Oper) (E : Env) : Env := E.filter fun p => !(ops.toList.filterMap (·.dst)).contains p.1
def orderOk (ops : Array Oper) : List Nat → List Nat → Bool
  | [], S => (List.range ops.size).all S.contains
  | i :: l, S => Nat.ble (i + 1) ops.size && ((depsOf ops i).all S.contains && orderOk ops l (i :: S))
structure DInv (N : Nat) (ops : Array Oper) (V : Env) (D : List Nat) (E : Env) (ds : List Deferred) (S : List Nat) (a : Act) : Prop where
  sat0 : Sat N (keepE ops E) ds a
  sat1 : (∀ i, i ∈ S → freshAt ops E i = true) → Sat N E ds a
  vals : ∀ i, i ∈ S → i < ops.size ∧ ∃ v, look V i = some v ∧ ∀ d, (ops[i]?).bind (·.dst) = some d → a.tmps[d]? = some v
  done : ∀ i, i ∈ D → i ∈ S
  nodup : S.Nodup
  closed : ∀ i, i ∈ S → ∀ j, j ∈ depsOf ops i → j ∈ S
def AR (P : Program) (r : Option Nat) (N : Nat) (ops : Array Oper) (Q : Exit → Act → World → Prop) (V : Env) (D : List Nat) (E : Env) (ds : List Deferred) (M : List HP) (F : List Fact) : Prop :=
  ∀ fuel S a w, DInv N ops V D E ds S a → St w M F → fuel + S.length = ops.size → AO r P ops Q fuel S a w
section
variable {P : Program} {r : Option Nat} {N : Nat} {ops : Array Oper} {Q : Exit → Act → World → Prop} {V : Env} {D : List Nat} {E : Env} {ds : List Deferred} {M : List HP} {F : List Fact}
theorem DInv.sat_add {S : List Nat} {a : Act} (h : DInv N ops V D E ds S a) {E0 : Env} (h0 : Sat N E0 ds a) : ∀ {js : List Nat}, (∀ j, j ∈ js → j ∈ S) → Sat N (envD ops V js ++ E0) ds a
  | [], _ => h0
  | j :: js, hj => by
    have ih := h.sat_add h0 (js := js) fun k hk => hj k (by simp [hk])
    obtain ⟨hjs, v, hv, hd⟩ := h.vals j (hj j (by simp))
    simp only [envD]
    cases hb : (ops[j]?).bind (·.dst) with
    | none => exact ih
    | some d =>
      rw [hv]
      refine ⟨ih.size, ih.defers, fun k u hk => ?_⟩
      simp only [List.cons_append, look] at hk
      by_cases e : d = k
      · subst e
        simp at hk
        subst hk
        exact hd _ hb
      · rw [beq_false e] at hk
        exact ih.get k u hk
theorem depsOf_ready {S : List Nat} {i : Nat} (h : readyB ops S i = true) : ∀ j, j ∈ depsOf ops i → j ∈ S := by
  intro j hj
  unfold readyB at h
  unfold depsOf at hj
  cases ho : ops[i]? with
  | none => rw [ho] at hj; cases hj
  | some o =>
    rw [ho] at h hj
    simp only [Bool.and_eq_true] at h
    simp only [List.mem_map, List.mem_filter] at hj
    obtain ⟨e, ⟨he, hb⟩, rfl⟩ := hj
    have := Array.all_eq_true_iff_forall_mem.1 h.2 e (Array.mem_toList_iff.1 he)
    simp [hb] at this
    exact this
theorem slots_ne (hs : slotsOk ops E N = true) {i j d : Nat} (hi : (ops[i]?).bind (·.dst) = some d) (hj : (ops[j]?).bind (·.dst) = some d) : i = j := by
  unfold slotsOk at hs
  simp only [Bool.and_eq_true, decide_eq_true_eq] at hs
  have hn := hs.1
  clear hs
  obtain ⟨l⟩ := ops
  simp only [List.getElem?_toArray] at hi hj hn
  induction l generalizing i j with
  | nil => simp at hi
  | cons o l ih =>
    have key : ∀ k, ((o :: l)[k + 1]?).bind (·.dst) = some d → d ∈ l.filterMap (·.dst) := by
      intro k hk
      simp only [List.getElem?_cons_succ] at hk
      cases hx : l[k]? with
      | none => rw [hx] at hk; cases hk
      | some x => rw [hx] at hk; exact List.mem_filterMap.2 ⟨x, List.mem_of_getElem? hx, hk⟩
    cases i with
    | zero =>
      cases j with
      | zero => rfl
      | succ j =>
        have h1 : o.dst = some d := by simpa using hi
        rw [List.filterMap_cons, h1] at hn
        exact absurd (key j hj) (List.nodup_cons.1 hn).1
    | succ i =>
      cases j with
      | zero =>
        have h1 : o.dst = some d := by simpa using hj
        rw [List.filterMap_cons, h1] at hn
        exact absurd (key i hi) (List.nodup_cons.1 hn).1
      | succ j =>
        have hn' : (l.filterMap (·.dst)).Nodup := by
          rw [List.filterMap_cons] at hn
          split at hn
          · exact hn
          · exact (List.nodup_cons.1 hn).2
        exact congrArg (· + 1) (ih (i := i) (j := j) hn' (by simpa using hi) (by simpa using hj))
theorem dst_mem {i d : Nat} (hi : (ops[i]?).bind (·.dst) = some d) : d ∈ ops.toList.filterMap (·.dst) := by
  cases ho : ops[i]? with
  | none => rw [ho] at hi; cases hi
  | some o =>
    rw [ho] at hi
    exact List.mem_filterMap.2 ⟨o, Array.mem_toList_iff.2 (Array.mem_of_getElem? ho), hi⟩
theorem look_keep : ∀ {E : Env} {d : Nat}, d ∈ ops.toList.filterMap (·.dst) → look (keepE ops E) d = none
  | [], d, h => rfl
  | p :: E, d, h => by
    unfold keepE
    rw [List.filter_cons]
    by_cases e : (ops.toList.filterMap (·.dst)).contains p.1 = true
    · rw [e]; exact look_keep (E := E) h
    · rw [Bool.not_eq_true] at e
      rw [e]
      show look (p :: keepE ops E) d = none
      have hne : p.1 ≠ d := fun e2 => by subst e2; rw [List.contains_iff_mem.2 h] at e; cases e
      obtain ⟨a, b⟩ := p
      simp only [look]
      rw [beq_false hne]
      exact look_keep h
theorem slots_lt (hs : slotsOk ops E N = true) {i d : Nat} (hi : (ops[i]?).bind (·.dst) = some d) : Nat.ble (d + 1) N = true ∧ look (keepE ops E) d = none := by
  refine ⟨?_, look_keep (dst_mem hi)⟩
  unfold slotsOk at hs
  simp only [Bool.and_eq_true] at hs
  exact List.all_eq_true.1 hs.2.1 d (dst_mem hi)
theorem slots_fresh {i : Nat} (hi : freshAt ops E i = true) {d : Nat} (hd : (ops[i]?).bind (·.dst) = some d) : look E d = none := by
  unfold freshAt at hi
  rw [hd] at hi
  simpa using hi
theorem DInv.sat {S : List Nat} {a : Act} (h : DInv N ops V D E ds S a) (hs : slotsOk ops E N = true) {i : Nat} (hi : i < ops.size) (hiS : i ∉ S) : Sat N E ds a := by
  refine h.sat1 fun j hj => Classical.byContradiction fun hf => ?_
  unfold slotsOk at hs
  simp only [Bool.and_eq_true] at hs
  have h2 := List.all_eq_true.1 hs.2.2 j (List.mem_range.2 (h.vals j hj).1)
  rw [Bool.not_eq_true] at hf
  rw [hf, Bool.false_or] at h2
  unfold lastB at h2
  have h3 := List.all_eq_true.1 h2 i (List.mem_range.2 hi)
  rw [Bool.or_eq_true] at h3
  rcases h3 with h3 | h3
  · exact hiS ((beq_iff_eq.1 h3) ▸ hj)
  · exact hiS (h.closed j hj i (by simpa using h3))
theorem DInv.put {S : List Nat} {a : Act} (h : DInv N ops V D E ds S a) (hs : slotsOk ops E N = true) {i : Nat} {o : Oper} (ho : ops[i]? = some o) (hiS : i ∉ S) (hdeps : ∀ j, j ∈ depsOf ops i → j ∈ S) {v : Value} {V' : Env} {D' : List Nat} (hV : look V' i = some v) (hVV : ∀ j u, j ≠ i → look V j = some u → look V' j = some u) (hD : ∀ j, j ∈ D' → j = i ∨ j ∈ D) :
    DInv N ops V' D' E ds (i :: S) (a.put o.dst v) := by
  have hoi : (ops[i]?).bind (·.dst) = o.dst := by rw [ho]; rfl
  refine ⟨?_, fun hfr => ?_, fun j hj => ?_, fun j hj => ?_, List.nodup_cons.2 ⟨hiS, h.nodup⟩, fun j hj k hk => ?_⟩
  · cases hd : o.dst with
    | none => exact h.sat0
    | some d =>
      obtain ⟨h1, h2⟩ := slots_lt hs (hoi.trans hd)
      have h3 := h.sat0.put h1 v
      refine ⟨h3.size, h3.defers, fun k u hk => h3.get k u ?_⟩
      simp only [look]
      rw [beq_false (fun e => by subst e; rw [h2] at hk; cases hk)]
      exact hk
  · have hst := h.sat1 fun j hj => hfr j (.tail _ hj)
    cases hd : o.dst with
    | none => exact hst
    | some d =>
      have h1 := (slots_lt hs (hoi.trans hd)).1
      have h2 := slots_fresh (hfr i (.head _)) (hoi.trans hd)
      have h3 := hst.put h1 v
      refine ⟨h3.size, h3.defers, fun k u hk => h3.get k u ?_⟩
      simp only [look]
      rw [beq_false (fun e => by subst e; rw [h2] at hk; cases hk)]
      exact hk
  · rcases List.mem_cons.1 hj with e | e
    · subst e
      refine ⟨(Array.getElem?_eq_some_iff.1 ho).1, v, hV, fun d hd => ?_⟩
      rw [hoi] at hd
      obtain ⟨h1, _⟩ := slots_lt hs (hoi.trans hd)
      rw [hd]
      exact (h.sat0.put h1 v).get d v (by simp [look])
    · obtain ⟨hlt, u, hu, hd⟩ := h.vals j e
      have hne : j ≠ i := fun e' => hiS (e' ▸ e)
      refine ⟨hlt, u, hVV j u hne hu, fun d hdj => ?_⟩
      cases hod : o.dst with
      | none => exact hd d hdj
      | some d' =>
        have hdd : d' ≠ d := fun e' => hne (slots_ne hs hdj (hoi.trans (by rw [hod, e'])))
        simp only [Act.put, Array.getElem?_setIfInBounds, hdd, if_false]
        exact hd d hdj
  · rcases hD j hj with e | e
    · exact e ▸ .head _
    · exact .tail _ (h.done j e)
  · rcases List.mem_cons.1 hj with e | e
    · subst e; exact .tail _ (hdeps k hk)
    · exact .tail _ (h.closed j e k hk)
theorem exists_ready {S : List Nat} : ∀ {l T : List Nat}, orderOk ops l T = true → (∀ j, j ∈ T → j ∈ S) → (∃ i, i < ops.size ∧ i ∉ S) → ∃ i, i < ops.size ∧ readyB ops S i = true
  | [], T, h, hT, ⟨i, hi, hn⟩ => by
    simp only [orderOk, List.all_eq_true, List.mem_range] at h
    exact absurd (hT i (by simpa using h i hi)) hn
  | k :: l, T, h, hT, hex => by
    simp only [orderOk, Bool.and_eq_true] at h
    have hlt : k < ops.size := Nat.le_of_ble_eq_true h.1
    by_cases hk : k ∈ S
    · exact exists_ready h.2.2 (fun j hj => by rcases List.mem_cons.1 hj with e | e; exact e ▸ hk; exact hT j e) hex
    · refine ⟨k, hlt, ?_⟩
      unfold readyB
      rw [Array.getElem?_eq_getElem hlt]
      simp only [Bool.and_eq_true]
      refine ⟨by simpa using hk, Array.all_eq_true_iff_forall_mem.2 fun e he => ?_⟩
      by_cases hb : Region.binds .any e = true
      · have : e.on ∈ depsOf ops k := by
          unfold depsOf
          rw [Array.getElem?_eq_getElem hlt]
          exact List.mem_map.2 ⟨e, List.mem_filter.2 ⟨Array.mem_toList_iff.2 he, hb⟩, rfl⟩
        have h1 := List.all_eq_true.1 h.2.1 _ this
        have := hT _ (by simpa using h1)
        simp [this]
      · simp at hb; simp [hb]
def covers (ops : Array Oper) (V : Env) (D qs effs : List Nat) : Bool :=
  (List.range ops.size).all fun i => D.contains i || qs.contains i || effs.contains i || (depsOf ops i).any fun j => (look V j).isNone
theorem mem_lt_of_short {S : List Nat} {n : Nat} (hl : S.length < n) : ∃ i, i < n ∧ i ∉ S := by
  refine Classical.byContradiction fun h => ?_
  have hall : ∀ i, i < n → i ∈ S := fun i hi => Classical.byContradiction fun hi' => h ⟨i, hi, hi'⟩
  have : (List.range n).length ≤ S.length := (List.nodup_range).length_le_of_subset fun i hi => hall i (List.mem_range.1 hi)
  rw [List.length_range] at this
  omega
theorem AR.phase (qs effs : List Nat) (ord : List Nat) (hord : orderOk ops ord [] = true) (hslots : slotsOk ops E N = true) (hcov : covers ops V D qs effs = true)
    (hq : ∀ i, i ∈ qs → ∃ o v, ops[i]? = some o ∧ look V i = some v ∧ ((wantedG ops (envD ops V (depsOf ops i) ++ E) o.guard = some true ∧ PV P (envD ops V (depsOf ops i) ++ E) M F o v) ∨ (wantedG ops (envD ops V (depsOf ops i) ++ E) o.guard = some false ∧ v = undef)))
    (he : ∀ i, i ∈ effs → look V i = none ∧ ∃ (o : Oper) (ι : Type) (val : ι → Value) (M' : ι → List HP) (F' : ι → List Fact), ops[i]? = some o ∧ wantedG ops (envD ops V (depsOf ops i) ++ E) o.guard = some true ∧
      EV P r Q (envD ops V (depsOf ops i) ++ E) M F o ι val M' F' ∧ ∀ x, AR P r N ops Q ((i, val x) :: V) (i :: D) E ds (M' x) (F' x))
    (hend : (∃ i, i < ops.size ∧ look V i = none) ∨ NX N .normal Q (envD ops V (List.range ops.size) ++ keepE ops E) ds M F) : AR P r N ops Q V D E ds M F := by
  intro fuel
  induction fuel with
  | zero =>
    intro S a w hI hw hl
    have hall : ∀ i, i < ops.size → i ∈ S := fun i hi => Classical.byContradiction fun hn => by
      have h2 : (i :: S).length ≤ (List.range ops.size).length := (List.nodup_cons.2 ⟨hn, hI.nodup⟩).length_le_of_subset fun j hj => by
        rcases List.mem_cons.1 hj with e | e
        · exact List.mem_range.2 (e ▸ hi)
        · exact List.mem_range.2 (hI.vals j e).1
      rw [List.length_range, List.length_cons] at h2
      omega
    rcases hend with ⟨i, hi, hn⟩ | hend
    · obtain ⟨_, v, hv, _⟩ := hI.vals i (hall i hi)
      rw [hn] at hv; cases hv
    · exact hend a w (hI.sat_add hI.sat0 fun j hj => hall j (List.mem_range.1 hj)) hw
  | succ fuel ih =>
    intro S a w hI hw hl
    refine ⟨exists_ready hord (fun j hj => by cases hj) (mem_lt_of_short (by omega)), fun i hi hr => ?_⟩
    have hdeps := depsOf_ready hr
    have hiS : i ∉ S := by
      unfold readyB at hr
      simp only [Bool.and_eq_true] at hr
      simpa using hr.1
    have hsat := hI.sat_add (hI.sat hslots hi hiS) hdeps
    have hc := List.all_eq_true.1 hcov i (List.mem_range.2 hi)
    simp only [Bool.or_eq_true] at hc
    rcases hc with ((hc | hc) | hc) | hc
    · exact absurd (hI.done i (by simpa using hc)) hiS
    · obtain ⟨o, v, ho, hv, hx⟩ := hq i (by simpa using hc)
      have hnext : ∀ w', St w' M F → AO r P ops Q fuel (i :: S) (a.put o.dst v) w' := fun w' hw' =>
        ih (i :: S) _ w' (hI.put hslots ho hiS hdeps hv (fun j u _ h => h) (fun j hj => .inr hj)) hw' (by simp; omega)
      refine ⟨o, ho, ?_⟩
      rcases hx with ⟨hg, hnd, hp⟩ | ⟨hg, rfl⟩
      · rw [if_pos (hsat.wanted hg)]
        refine ⟨fun _ _ => trivial, ?_⟩
        rw [semAt_plain (r := (Wd r).round) a.eval o hnd, hp a.eval (fun x u h => hsat.eval h) w hw]
        exact hnext w hw
      · rw [hsat.wanted hg, if_neg (by simp)]
        exact hnext w hw
    · obtain ⟨hVn, o, ι, val, M', F', ho, hg, ⟨hnd, hev⟩, hk⟩ := he i (by simpa using hc)
      refine ⟨o, ho, ?_⟩
      rw [if_pos (hsat.wanted hg)]
      refine ⟨fun _ _ => trivial, ?_⟩
      rw [semAt_plain (r := (Wd r).round) a.eval o hnd]
      refine hev a w _ (fun x u h => hsat.eval h) hw fun x w' hw' => ?_
      refine hk x fuel (i :: S) _ w' (hI.put hslots ho hiS hdeps (by simp [look]) (fun j u hne h => ?_) (fun j hj => List.mem_cons.1 hj)) hw' (by simp; omega)
      simp only [look]
      rw [beq_false (fun e => hne e.symm)]
      exact h
    · obtain ⟨j, hj, hn⟩ := List.any_eq_true.1 hc
      obtain ⟨_, v, hv, _⟩ := hI.vals j (hdeps j hj)
      rw [hv] at hn
      cases hn
theorem look_keep_of : ∀ {E : Env} {d : Nat} {v : Value}, look (keepE ops E) d = some v → look E d = some v
  | [], d, v, h => by cases h
  | p :: E, d, v, h => by
    have hk : (ops.toList.filterMap (·.dst)).contains d = false := by
      cases hc : (ops.toList.filterMap (·.dst)).contains d with
      | false => rfl
      | true => rw [look_keep (List.contains_iff_mem.1 hc)] at h; cases h
    unfold keepE at h
    rw [List.filter_cons] at h
    obtain ⟨a, b⟩ := p
    by_cases e : (ops.toList.filterMap (·.dst)).contains a = true
    · rw [show (!(ops.toList.filterMap (·.dst)).contains (a, b).1) = false from by show (!(ops.toList.filterMap (·.dst)).contains a) = false; rw [e]; rfl] at h
      have h2 := look_keep_of (E := E) h
      simp only [look]
      rw [beq_false (fun e2 => by subst e2; rw [hk] at e; cases e)]
      exact h2
    · rw [Bool.not_eq_true] at e
      rw [show (!(ops.toList.filterMap (·.dst)).contains (a, b).1) = true from by show (!(ops.toList.filterMap (·.dst)).contains a) = true; rw [e]; rfl] at h
      have h : look ((a, b) :: keepE ops E) d = some v := h
      simp only [look] at h ⊢
      by_cases e2 : a = d
      · subst e2; simpa using h
      · rw [beq_false e2] at h ⊢
        exact look_keep_of h
theorem sat_keep {a : Act} (h : Sat N E ds a) : Sat N (keepE ops E) ds a := ⟨h.size, h.defers, fun k u hk => h.get k u (look_keep_of hk)⟩
theorem TR.draw {id : Nat} (hmix : P.follows .mixedOrders = true) (h : AR P r N ops Q [] [] E ds M F) : TR P r N (.region id ops true) Q E ds M F := fun a w ha hw => by
  refine wpIn_region_draw fun t => ?_
  have e : Region.schedule (P.follows .mixedOrders) ops t = lin ops ops.size t (Array.replicate ops.size false) := by
    unfold Region.schedule
    rw [hmix]
    simp only [Bool.true_or, if_true]
    unfold Region.linearise
    rw [go_lin]
    rfl
  rw [e]
  refine wp_any ops.size [] a _ t _ (h ops.size [] a _ ⟨sat_keep ha, fun _ => ha, fun i hi => (by cases hi), fun i hi => (by cases hi), List.nodup_nil, fun i hi => (by cases hi)⟩ hw.drew rfl) (by simp) fun i => ?_
  simp only [Array.getD_eq_getD_getElem?, Array.getElem?_replicate]
  split <;> simp
end
end Go.GL

namespace Go.GL
section
variable {P : Program} {E : Env} {M : List HP} {F : List Fact}
variable {d : Nat} {ty : TypeId} {pos : String} {aft : Array Edge} {gd : Option (Nat × Bool)}
theorem PV.move {x : Operand} {v : Value} (hx : evalO E x = some v) : PV P E M F ⟨some d, .move x, ty, pos, aft, gd⟩ (v) := ⟨rfl,
  (fun ρ hρ w _ => by simp [execOp, hρ _ _ hx])⟩
theorem PV.assign {x : Operand} {v : Value} (hx : evalO E x = some v) : PV P E M F ⟨some d, .assign x, ty, pos, aft, gd⟩ (v) := ⟨rfl,
  (fun ρ hρ w _ => by simp [execOp, hρ _ _ hx])⟩
theorem PV.pickT {c x y : Operand} {v : Value} (hc : evalO E c = some (.bool true)) (hx : evalO E x = some v) : PV P E M F ⟨some d, .pick c x y, ty, pos, aft, gd⟩ (v) := ⟨rfl,
  (fun ρ hρ w _ => by simp [execOp, hρ _ _ hc, hρ _ _ hx, asBool])⟩
theorem PV.pickF {c x y : Operand} {v : Value} (hc : evalO E c = some (.bool false)) (hy : evalO E y = some v) : PV P E M F ⟨some d, .pick c x y, ty, pos, aft, gd⟩ (v) := ⟨rfl,
  (fun ρ hρ w _ => by simp [execOp, hρ _ _ hc, hρ _ _ hy, asBool])⟩
theorem PV.nilCheck {x : Operand} {a : Addr} (hx : evalO E x = some (.pointer (some a))) : PV P E M F ⟨some d, .nilCheck x, ty, pos, aft, gd⟩ (.pointer (some a)) := ⟨rfl,
  (fun ρ hρ w _ => by simp [execOp, hρ _ _ hx])⟩
theorem PV.extract {x : Operand} {i : Nat} {vs : Array Value} {v : Value} (hx : evalO E x = some (.tuple vs)) (hv : vs[i]? = some v) : PV P E M F ⟨some d, .extract x i, ty, pos, aft, gd⟩ (v) := ⟨rfl,
  (fun ρ hρ w _ => by simp [execOp, hρ _ _ hx, Instr.extract, hv])⟩
theorem PV.not {t : TypeId} {x : Operand} {b : Bool} (hx : evalO E x = some (.bool b)) : PV P E M F ⟨some d, .unOp .not t x, ty, pos, aft, gd⟩ (.bool (!b)) := ⟨rfl,
  (fun ρ hρ w _ => by simp [execOp, hρ _ _ hx, Op.unary])⟩
theorem PV.load1 {t bt : TypeId} {x : Operand} {b off : Nat} {cs : List Value} {v : Value} (i : Nat) (ht : tyScalar P t = true) (hx : evalO E x = some (.pointer (some ⟨b, off, none⟩))) (hi : M[i]? = some (Box b bt cs)) (hc : cs[off]? = some v) : PV P E M F ⟨some d, .load t x, ty, pos, aft, gd⟩ (v) := ⟨rfl,
  (fun ρ hρ w hw => by
    have hb := hw.heap hi
    simp [execOp, hρ _ _ hx, Instr.loadAt, Instr.sureAddr, run_loadVar_scalar ht ((cell_of_box hb).trans hc)])⟩
theorem PV.loadA {t bt : TypeId} {x : Operand} {b : Nat} {cs : List Value} (i : Nat) (hx : evalO E x = some (.pointer (some ⟨b, 0, none⟩))) (hi : M[i]? = some (Box b bt cs)) (ht : tyAgg P t cs.length = true) : PV P E M F ⟨some d, .load t x, ty, pos, aft, gd⟩ (.agg cs.toArray) := ⟨rfl,
  (fun ρ hρ w hw => by
    have hb := hw.heap hi
    simp [execOp, hρ _ _ hx, Instr.loadAt, Instr.sureAddr, run_loadVar_agg ht (a := ⟨b, 0, none⟩) rfl fun j v hv => by rw [addr_add, cell_of_box hb]; simpa using hv])⟩
theorem PV.loadF {t : TypeId} {x : Operand} {a : Addr} {v : Value} (hx : evalO E x = some (.pointer (some a))) (hF : ∀ w K, FAll F w K → Reads P w t a v) : PV P E M F ⟨some d, .load t x, ty, pos, aft, gd⟩ (v) := ⟨rfl,
  (fun ρ hρ w hw => by
    obtain ⟨K, _, _, hf⟩ := hw
    have := hF w K hf
    unfold Reads at this
    simp [execOp, hρ _ _ hx, Instr.loadAt, Instr.sureAddr, this])⟩
theorem PV.loadS {t : TypeId} {x : Operand} {a : Addr} {v : Value} (hx : evalO E x = some (.pointer (some a))) (hF : ∀ w, St w M F → Reads P w t a v) : PV P E M F ⟨some d, .load t x, ty, pos, aft, gd⟩ (v) := ⟨rfl,
  (fun ρ hρ w hw => by
    have := hF w hw
    unfold Reads at this
    simp [execOp, hρ _ _ hx, Instr.loadAt, Instr.sureAddr, this])⟩
theorem PV.fieldAddr {t : TypeId} {x : Operand} {f b off o : Nat} (hf : fieldOff P t f o = true) (hx : evalO E x = some (.pointer (some ⟨b, off, none⟩))) : PV P E M F ⟨some d, .fieldAddr t x f, ty, pos, aft, gd⟩ (.pointer (some ⟨b, off + o, none⟩)) := ⟨rfl,
  (fun ρ hρ w _ => by
    unfold fieldOff at hf
    cases hu : P.underlying t with
    | none => rw [hu] at hf; cases hf
    | some td =>
      rw [hu] at hf
      cases td <;> try (cases hf; done)
      rename_i fs
      simp only at hf
      cases hfd : fs[f]? with
      | none => rw [hfd] at hf; cases hf
      | some fd =>
        rw [hfd] at hf
        simp only [Bool.and_eq_true] at hf
        obtain ⟨h1, h2⟩ := hf
        have h1' := Nat.eq_of_beq_eq_true h1
        cases hi : P.info? fd.type with
        | none => rw [hi] at h2; cases h2
        | some ti =>
          rw [hi] at h2
          have hne : ¬ ti.size = 0 := by
            intro e
            simp only [e] at h2
            cases h2
          subst h1'
          simp [execOp, hρ _ _ hx, Instr.fieldAt, run_underlying hu, hfd, Instr.sureAddr, fieldPlace, sizeOf, typeInfo, hi, hne, addr_add])⟩
theorem PV.indexAddr {t e : TypeId} {x y : Operand} {b off len cap size : Nat} {ik : IntKind} {n : Int} (ht : tySlice P t e = true) (hz : tySize P e size = true) (hx : evalO E x = some (.slice (some ⟨b, off, none⟩) len cap)) (hy : evalO E y = some (.int ik n)) (h0 : 0 ≤ n) (h1 : n < len) : PV P E M F ⟨some d, .indexAddr t x y, ty, pos, aft, gd⟩ (.pointer (some ⟨b, off + n.toNat * size, none⟩)) := ⟨rfl,
  (fun ρ hρ w _ => by
    simp [execOp, hρ _ _ hx, hρ _ _ hy, Instr.indexAt, asIntOf, run_underlying (run_tySlice ht), h0, h1, run_sizeOf' hz, addr_add])⟩
theorem PV.bin {op : BinOp} {t yt : TypeId} {x y : Operand} {vx vy v : Value} (hx : evalO E x = some vx) (hy : evalO E y = some vy) (h : BinV P op t vx vy v) : PV P E M F ⟨some d, .binOp op t x y yt, ty, pos, aft, gd⟩ (v) := ⟨rfl,
  (fun ρ hρ w _ => by
    have h1 := h.1 w
    have h2 := h.2 x y w
    simp [execOp, hρ _ _ hx, hρ _ _ hy, h1, h2])⟩
theorem PV.lenSlice {T e : TypeId} {x : Operand} {oa : Option Addr} {n cap : Nat} {aty : Array TypeId} (ht : tySlice P T e = true) (hx : evalO E x = some (.slice oa n cap)) (hT : aty = #[T] := by rfl) : PV P E M F ⟨some d, .call ⟨.builtin .len, #[x], aty⟩, ty, pos, aft, gd⟩ (I n) := ⟨rfl,
  (fun ρ hρ w _ => by
    subst hT
    simp [execOp, resolve, hρ _ _ hx, invoke, builtin, Builtin.len_, run_underlying (run_tySlice ht), goInt])⟩
theorem PV.lenStr {T : TypeId} {x : Operand} {l : List UInt8} {aty : Array TypeId} (ht : tyStr P T = true) (hx : evalO E x = some (S l)) (hT : aty = #[T] := by rfl) : PV P E M F ⟨some d, .call ⟨.builtin .len, #[x], aty⟩, ty, pos, aft, gd⟩ (I l.length) := ⟨rfl,
  (fun ρ hρ w _ => by
    subst hT
    simp [execOp, resolve, hρ _ _ hx, invoke, builtin, Builtin.len_, run_underlying (tyStr_underlying ht), goInt, S_size])⟩
theorem PV.max {x y : Operand} {k1 : IntKind} {a b : Int} {aty : Array TypeId} (hx : evalO E x = some (.int k1 a)) (hy : evalO E y = some (.int k1 b)) : PV P E M F ⟨some d, .call ⟨.builtin .max, #[x, y], aty⟩, ty, pos, aft, gd⟩ (.int k1 (max a b)) := ⟨rfl,
  (fun ρ hρ w _ => by
    simp [execOp, resolve, hρ _ _ hx, hρ _ _ hy, invoke, builtin, Builtin.max_, Builtin.max2, ← max_if])⟩
theorem PV.min {x y : Operand} {k1 : IntKind} {a b : Int} {aty : Array TypeId} (hx : evalO E x = some (.int k1 a)) (hy : evalO E y = some (.int k1 b)) : PV P E M F ⟨some d, .call ⟨.builtin .min, #[x, y], aty⟩, ty, pos, aft, gd⟩ (.int k1 (min a b)) := ⟨rfl,
  (fun ρ hρ w _ => by
    simp [execOp, resolve, hρ _ _ hx, hρ _ _ hy, invoke, builtin, Builtin.min_, Builtin.min2, ← min_if])⟩
theorem PV.indexS {T : TypeId} {x y : Operand} {l : List UInt8} {n : Int} {u : UInt8} (ht : tyStr P T = true) (hx : evalO E x = some (S l)) (hy : evalO E y = some (I n)) (h0 : 0 ≤ n) (hu : l[n.toNat]? = some u) : PV P E M F ⟨some d, .index T x y, ty, pos, aft, gd⟩ (.int .u8 u.toNat) := ⟨rfl,
  (fun ρ hρ w _ => by
    have hb : (⟨l.toArray⟩ : ByteArray)[n.toNat]? = some u := by
      have hlt := (List.getElem?_eq_some_iff.1 hu).1
      rw [getElem?_pos (⟨l.toArray⟩ : ByteArray) n.toNat (by rw [S_size]; exact hlt)]
      rw [List.getElem?_eq_getElem hlt] at hu
      exact hu
    simp [execOp, hρ _ _ hx, hρ _ _ hy, Instr.index, asIntOf, run_underlying (tyStr_underlying ht), h0, hb])⟩
theorem PV.sliceS {T : TypeId} {x y z : Operand} {l : List UInt8} {i j : Int} (ht : tyStr P T = true) (hx : evalO E x = some (S l)) (hy : evalO E y = some (I i)) (hz : evalO E z = some (I j)) (h0 : 0 ≤ i) (h1 : i ≤ j) (h2 : j ≤ l.length) : PV P E M F ⟨some d, .slice T x (some y) (some z) none, ty, pos, aft, gd⟩ (S ((l.take j.toNat).drop i.toNat)) := ⟨rfl,
  (fun ρ hρ w _ => by
    have e : (⟨l.toArray⟩ : ByteArray).extract i.toNat j.toNat = ⟨((l.take j.toNat).drop i.toNat).toArray⟩ := by
      apply ByteArray.ext
      simp [ByteArray.data_extract, List.drop_take]
    have h3 : (0 : Int) ≤ j := by omega
    have h4 : ¬ Max.max j 0 < i := by omega
    simp [execOp, hρ _ _ hx, hρ _ _ hy, hρ _ _ hz, Instr.sliceAt, Instr.slice, Instr.sliceBounds, Instr.sliceBound, asIntOf, run_underlying (tyStr_underlying ht), S_size, h0, h2, h3, h4, e])⟩
theorem PV.sliceSfrom {T : TypeId} {x y : Operand} {l : List UInt8} {i : Int} (ht : tyStr P T = true) (hx : evalO E x = some (S l)) (hy : evalO E y = some (I i)) (h0 : 0 ≤ i) (h2 : i ≤ l.length) : PV P E M F ⟨some d, .slice T x (some y) none none, ty, pos, aft, gd⟩ (S (l.drop i.toNat)) := ⟨rfl,
  (fun ρ hρ w _ => by
    have e : (⟨l.toArray⟩ : ByteArray).extract i.toNat l.length = ⟨(l.drop i.toNat).toArray⟩ := by
      apply ByteArray.ext
      simp [ByteArray.data_extract]
      exact List.take_of_length_le (by simp)
    simp [execOp, hρ _ _ hx, hρ _ _ hy, Instr.sliceAt, Instr.slice, Instr.sliceBounds, Instr.sliceBound, asIntOf, run_underlying (tyStr_underlying ht), S_size, h0, h2, e])⟩
theorem PV.sliceSto {T : TypeId} {x z : Operand} {l : List UInt8} {j : Int} (ht : tyStr P T = true) (hx : evalO E x = some (S l)) (hz : evalO E z = some (I j)) (h0 : 0 ≤ j) (h2 : j ≤ l.length) : PV P E M F ⟨some d, .slice T x none (some z) none, ty, pos, aft, gd⟩ (S (l.take j.toNat)) := ⟨rfl,
  (fun ρ hρ w _ => by
    have e : (⟨l.toArray⟩ : ByteArray).extract 0 j.toNat = ⟨(l.take j.toNat).toArray⟩ := by
      apply ByteArray.ext
      simp [ByteArray.data_extract]
    simp [execOp, hρ _ _ hx, hρ _ _ hz, Instr.sliceAt, Instr.slice, Instr.sliceBounds, Instr.sliceBound, asIntOf, run_underlying (tyStr_underlying ht), S_size, h0, h2, e])⟩
theorem PV.sliceLH {T e : TypeId} {x : Operand} {lo hi : Option Operand} {oa : Option Addr} {n cap size l h : Nat} (ht : tySlice P T e = true) (hz : tySize P e size = true) (hx : evalO E x = some (.slice oa n cap))
    (hlo : (lo = none ∧ l = 0) ∨ ∃ o, lo = some o ∧ evalO E o = some (I l)) (hhi : (hi = none ∧ h = n) ∨ ∃ o, hi = some o ∧ evalO E o = some (I h)) (h1 : l ≤ h) (h2 : h ≤ cap) : PV P E M F ⟨some d, .slice T x lo hi none, ty, pos, aft, gd⟩ (.slice (cutA oa l cap size) (h - l) (cap - l)) := ⟨rfl,
  (fun ρ hρ w _ => by
    have h3 : ¬ cap < h := by omega
    have h4 : ¬ h < l := by omega
    rcases hlo with ⟨rfl, rfl⟩ | ⟨o, rfl, ho⟩ <;> rcases hhi with ⟨rfl, rfl⟩ | ⟨o', rfl, ho'⟩
    · simp [execOp, hρ _ _ hx, Instr.sliceAt, Instr.slice, Instr.sliceBounds, run_underlying (run_tySlice ht), run_sizeOf' hz, cutA]
    · simp [execOp, hρ _ _ hx, hρ _ _ ho', Instr.sliceAt, Instr.slice, Instr.sliceBounds, Instr.sliceBound, asIntOf, run_underlying (run_tySlice ht), run_sizeOf' hz, h3, cutA]
    · simp [execOp, hρ _ _ hx, hρ _ _ ho, Instr.sliceAt, Instr.slice, Instr.sliceBounds, Instr.sliceBound, asIntOf, run_underlying (run_tySlice ht), run_sizeOf' hz, h4, cutA]
    · simp [execOp, hρ _ _ hx, hρ _ _ ho, hρ _ _ ho', Instr.sliceAt, Instr.slice, Instr.sliceBounds, Instr.sliceBound, asIntOf, run_underlying (run_tySlice ht), run_sizeOf' hz, h1, h2, cutA])⟩
theorem PV.build {T : TypeId} {ps : List (Nat × Operand)} {vs : List (Nat × Value)} {v : Value} (hp : evalParts E ps = some vs) (hb : BuildV P T vs v) : PV P E M F ⟨some d, .build T ps.toArray, ty, pos, aft, gd⟩ (v) := ⟨rfl,
  (fun ρ hρ w _ => by
    have := hb w
    simp [execOp, evalParts_map hρ hp, this])⟩
end
section
variable {P : Program} {r : Option Nat} {Q : Exit → Act → World → Prop} {E : Env} {M : List HP} {F : List Fact}
variable {d : Nat} {ty : TypeId} {pos : String} {aft : Array Edge} {gd : Option (Nat × Bool)}
theorem EV.of_gen {o : Oper} {ι : Type} {val : ι → Value} {M' : ι → List HP} {F' : ι → List Fact} (hnd : isDefer o.op = false) (h : ∀ ρ : Operand → Value, (∀ x u, evalO E x = some u → ρ x = u) → ∀ w, St w M F → ∃ i w', (execOp ρ o).run P w = .ok (.value (val i)) w' ∧ St w' (M' i) (F' i)) :
    EV P r Q E M F o ι val M' F' := ⟨hnd, fun a w next ha hw hk => by
  obtain ⟨i, w', e, hst⟩ := h a.eval ha w hw
  rw [e]
  exact hk i w' hst⟩
theorem EV.of_eff {o : Oper} {M' : List HP} (hnd : isDefer o.op = false) (h : ∀ ρ : Operand → Value, (∀ x u, evalO E x = some u → ρ x = u) → ∀ w, St w M F → ∃ w', (execOp ρ o).run P w = .ok .skip w' ∧ St w' M' F) :
    EV P r Q E M F o Unit (fun _ => undef) (fun _ => M') (fun _ => F) := ⟨hnd, fun a w next ha hw hk => by
  obtain ⟨w', e, hst⟩ := h a.eval ha w hw
  rw [e]
  exact hk () w' hst⟩
theorem args_of {ρ : Operand → Value} (hρ : ∀ x u, evalO E x = some u → ρ x = u) : ∀ {os : List Operand} {vs : List Value}, evalArgs E os = some vs → os.map ρ = vs
  | [], vs, e => by simpa [evalArgs] using e
  | o :: os, vs, e => by
    simp only [evalArgs] at e
    cases h1 : evalO E o with
    | none => rw [h1] at e; cases e
    | some v =>
      cases h2 : evalArgs E os with
      | none => rw [h1, h2] at e; cases e
      | some us =>
        rw [h1, h2] at e
        simp at e
        subst e
        simp [hρ _ _ h1, args_of hρ h2]
theorem EV.callV {cal : Operand} {asx : List Operand} {ats : Array TypeId} {vs fst cap : List Value} {f : FuncId} {ι : Type} {val : ι → Value} {M' : ι → List HP} {F' : ι → List Fact}
    (hc : evalO E cal = some (.func (.func f) fst.toArray cap.toArray)) (ha : evalArgs E asx = some vs) (hcall : ∀ args w, (callFunc f args).run P w = .ok (.enter f args) w)
    (h : Ctr P f (fst ++ vs ++ cap) M F ι val M' F') : EV P r Q E M F ⟨some d, .call ⟨.value cal, asx.toArray, ats⟩, ty, pos, aft, gd⟩ ι val M' F' := ⟨rfl, fun a w next hs hw hk => by
  have e1 : (execOp a.eval ⟨some d, .call ⟨.value cal, asx.toArray, ats⟩, ty, pos, aft, gd⟩).run P w = .ok (.enter f (fst ++ vs ++ cap).toArray) w := by
    simp [execOp, resolve, hs _ _ hc, args_of hs ha, Deferred.ofValue, invoke, hcall]
  rw [e1]
  refine ⟨fun h => by simp at h, ?_⟩
  have := h w hw
  refine ⟨this.1, fun cs hr => ?_⟩
  obtain ⟨e, w', fr, ⟨i, he, hst⟩, rest'⟩ := this.2 cs hr
  subst he
  exact ⟨_, w', fr, hk i w' hst, rest'⟩⟩
theorem EV.call {asx : List Operand} {ats : Array TypeId} {vs : List Value} {f : FuncId} {ι : Type} {val : ι → Value} {M' : ι → List HP} {F' : ι → List Fact}
    (ha : evalArgs E asx = some vs) (hcall : ∀ args w, (callFunc f args).run P w = .ok (.enter f args) w)
    (h : Ctr P f vs M F ι val M' F') : EV P r Q E M F ⟨some d, .call ⟨.value (.func f), asx.toArray, ats⟩, ty, pos, aft, gd⟩ ι val M' F' :=
  EV.callV (fst := []) (cap := []) rfl ha hcall (by simpa using h)
end
end Go.GL

namespace Go.GL
structure Src (P : Program) (w : World) (size m : Nat) (y : Value) (ys : List Value) : Prop where
  len : (Builtin.lenOf y).run P w = .ok m w
  len' : (Builtin.lenOf y).run P w.drew = .ok m w.drew
  cells : (Builtin.firstCells size m y).run P w = .ok ys.toArray w
  cells' : (Builtin.firstCells size m y).run P w.drew = .ok ys.toArray w.drew
  size : ys.length = m * size
  one : ∀ u, u ∈ ys → u.oneCell' = true
def tyElem (P : Program) (e size bytes : Nat) : Bool := match P.info? e with
  | some i => Nat.beq i.size size && Nat.beq i.bytes bytes && (match i.zero with | some z => Nat.beq z.cells.size size | none => false)
  | none => false
theorem tyElem_info {P : Program} {e size bytes : Nat} (h : tyElem P e size bytes = true) : ∃ i z, P.info? e = some i ∧ i.size = size ∧ i.bytes = bytes ∧ i.zero = some z ∧ z.cells.size = size := by
  unfold tyElem at h
  cases hi : P.info? e with
  | none => rw [hi] at h; cases h
  | some i =>
    rw [hi] at h
    simp only [Bool.and_eq_true] at h
    cases hz : i.zero with
    | none => rw [hz] at h; simp at h
    | some z =>
      rw [hz] at h
      exact ⟨i, z, rfl, Nat.eq_of_beq_eq_true h.1.1, Nat.eq_of_beq_eq_true h.1.2, hz, Nat.eq_of_beq_eq_true h.2⟩
def noInt (P : Program) (t : TypeId) : Bool := match P.underlying t with | some .string => true | some (.slice _) => true | _ => false
theorem noInt_is {P : Program} {t : TypeId} (h : noInt P t = true) : P.underlying t = some .string ∨ ∃ x, P.underlying t = some (.slice x) := by
  unfold noInt at h
  split at h
  · rename_i he; exact .inl he
  · rename_i x he; exact .inr ⟨x, he⟩
  · cases h
theorem run_append {P : Program} {w : World} {t u ty e size bytes : Nat} (ht : tySlice P t e = true) (hu : noInt P u = true) (he : tyElem P e size bytes = true)
    {oa : Option Addr} {n cap : Nat} {xs : List Value} (hown : w.ownsRow 0 e size (.slice oa n cap) n xs) {y : Value} {m : Nat} {ys : List Value} (hy : Src P w size m y ys) (h63 : n + m ≤ 9223372036854775807) (hb : (n + m) * bytes ≤ 140737488355328) :
    ∃ oa' cap' w', (Builtin.append_ #[t, u] ty #[.slice oa n cap, y]).run P w = .ok (.slice oa' (n + m) cap') w' ∧ w'.ownsRow 0 e size (.slice oa' (n + m) cap') (n + m) (xs ++ ys) ∧ w.grownBy w' (oa.map (·.block)) ∧ (oa' = oa ∨ oa' = some ⟨w.heap.size, 0, none⟩) := by
  obtain ⟨i, z, hi, hsz, hby, hz, hzs⟩ := tyElem_info he
  have ht' := run_tySlice ht
  have hu' := noInt_is hu
  have hlen : (xs ++ ys).length = (n + m) * size := by rw [List.length_append, hown.1, hy.size, Nat.add_mul]
  by_cases hroom : n + m ≤ cap
  · rcases hown.2 with ⟨hv, h0⟩ | ⟨g, cap', cur, hv, _, hg, hnc, hcm, hcs, htake⟩
    · simp only [Value.slice.injEq] at hv
      obtain ⟨rfl, _, rfl⟩ := hv
      obtain rfl : m = 0 := by omega
      subst h0
      have hys : ys = [] := List.eq_nil_of_length_eq_zero (by simpa using hy.size)
      have hxs : xs = [] := List.eq_nil_of_length_eq_zero (by simpa using hown.1)
      subst hys; subst hxs
      refine ⟨none, 0, w, ?_, hown, ⟨rfl, rfl, rfl, Nat.le_refl _, fun _ _ _ => rfl⟩, .inl rfl⟩
      have hc := hy.cells
      have hl := hy.len
      rcases hu' with hu' | ⟨x, hu'⟩ <;> simp [Builtin.append_, run_underlying ht', run_underlying hu', sizeOf, typeInfo, hi, hsz, hl, hc]
    · simp only [Value.slice.injEq] at hv
      obtain ⟨rfl, _, rfl⟩ := hv
      have hfit : n * size + ys.length ≤ cur.size := by rw [hy.size, hcs, ← Nat.add_mul]; exact Nat.mul_le_mul_right _ hroom
      have hst := run_storeCells_at P g (n * size) e ys 0 cur w hg (by simpa using hfit) hy.one
      simp only [Nat.add_zero] at hst
      refine ⟨some ⟨g, 0, none⟩, cap, w.setRow g (cur.toList.take (n * size) ++ ys ++ cur.toList.drop (n * size + ys.length)).toArray, ?_, ⟨hlen, .inr ⟨g, cap, _, rfl, Nat.zero_le _, setRow_heap w g cur _ e _ hg, hroom, hcm, ?_, ?_⟩⟩, ⟨rfl, rfl, rfl, by simp, fun k _ hk => setRow_other w g k _ (fun e => hk (by simp [e]))⟩, .inl rfl⟩
      · have hc := hy.cells
        have hl := hy.len
        rcases hu' with hu' | ⟨x, hu'⟩ <;> simp [Builtin.append_, run_underlying ht', run_underlying hu', sizeOf, typeInfo, hi, hsz, hl, hc, hroom, Addr.add_lit, hst]
      · simp only [List.size_toArray, List.length_append, List.length_take, List.length_drop, Array.length_toList]
        omega
      · rw [htake, ← hlen]
        exact List.take_left
  · have hn : ¬ (n + m ≤ cap) := hroom
    have h63' : ¬ (9223372036854775807 < ((n : Int) + (m : Int))) := by omega
    have h48 := growslice_fits (need := n + m) (old := cap) (by omega) hb
    have h48' : ¬ (281474976710656 < Builtin.nextslicecap (n + m) cap * bytes) := by omega
    have hold : (Builtin.firstCells size n (.slice oa n cap)).run P w.drew = .ok xs.toArray w.drew := by
      rcases hown.2 with ⟨hv, h0⟩ | ⟨g, cap', cur, hv, _, hg, _⟩
      · simp only [Value.slice.injEq] at hv
        obtain ⟨rfl, _, rfl⟩ := hv
        subst h0
        have hxs : xs = [] := List.eq_nil_of_length_eq_zero (by simpa using hown.1)
        subst hxs
        simp [Builtin.firstCells]
      · simp only [Value.slice.injEq] at hv
        obtain ⟨rfl, _, rfl⟩ := hv
        exact run_firstCells_some (P := P) w.drew size n ⟨g, 0, none⟩ n cap xs hown.1 (fun j u hu => by
          have := hown.cells (g := g) rfl j u hu
          simpa using this)
    refine ⟨some ⟨w.heap.size, 0, none⟩, grownCap w (n + m) cap e, w.drew.alloc (.cells (xs.toArray ++ ys.toArray ++ Builtin.zeroCells z.cells (grownCap w (n + m) cap e - (n + m))) e), ?_, ⟨hlen, .inr ⟨w.heap.size, _, _, rfl, Nat.zero_le _, Go.GL.al_new w.drew _, grownCap_ge w _ _ e, grownCap_le_maxLen w _ _ e (by simpa [maxLen] using h63), ?_, ?_⟩⟩, ⟨rfl, rfl, rfl, by simp, fun k hk _ => Go.GL.al_old w.drew _ k hk⟩, .inr rfl⟩
    · have hl := hy.len
      have hc' := hy.cells'
      rcases hu' with hu' | ⟨x, hu'⟩ <;> simp [Builtin.append_, run_underlying ht', run_underlying hu', sizeOf, typeInfo, zeroValue, hi, hz, hsz, hby, hl, hn, h63', h48', Question.forced, hold, hc', newRow, grownCap] <;> (congr 2; apply Array.ext'; simp [List.append_assoc])
    · have hge := grownCap_ge w (n + m) cap e
      have hl2 : xs.length + ys.length = (n + m) * size := by rw [← List.length_append]; exact hlen
      simp only [Array.size_append, List.size_toArray, size_zeroCells, hzs]
      rw [hl2, ← Nat.add_mul]
      congr 1
      omega
    · simp only [Array.toList_append, List.append_assoc]
      rw [← List.append_assoc, ← hlen]
      exact List.take_left
theorem Src.slice {P : Program} {w : World} {size m c : Nat} {oa : Option Addr} {ys : List Value} (h : ArrAt w [] oa ys) (hs : ys.length = m * size) (h1 : ys.all Value.oneCell' = true) : Src P w size m (.slice oa m c) ys := by
  have key : ∀ w' : World, ArrAt w' [] oa ys → (Builtin.firstCells size m (.slice oa m c)).run P w' = .ok ys.toArray w' := by
    intro w' h
    cases oa with
    | none =>
      rcases h with rfl | ⟨b, off, e, _⟩
      · simp [Builtin.firstCells]
      · cases e
    | some a =>
      refine run_firstCells_some w' size m a m c ys hs fun j v hv => ?_
      rcases h with rfl | ⟨b, off, e, hc⟩
      · simp at hv
      · cases e; rw [addr_add]; exact hc.2.2 j v hv
  exact ⟨rfl, rfl, key w h, key w.drew h, hs, fun u hu => List.all_eq_true.1 h1 u hu⟩
def bytesV (l : List UInt8) : List Value := l.map fun b => Value.int .u8 b.toNat
theorem bytesV_length (l : List UInt8) : (bytesV l).length = l.length := by simp [bytesV]
theorem Src.str {P : Program} {w : World} (l : List UInt8) : Src P w 1 l.length (S l) (bytesV l) := by
  have key : ∀ w' : World, (Builtin.firstCells 1 l.length (S l)).run P w' = .ok (bytesV l).toArray w' := by
    intro w'
    have := Lib.run_firstCells_string (P := P) w' 1 ⟨l.toArray⟩
    rw [S_size] at this
    rw [this]
    simp [Lib.strCells, bytesV]
  have hl : ∀ w' : World, (Builtin.lenOf (S l)).run P w' = .ok l.length w' := fun w' => by
    show Result.ok (⟨l.toArray⟩ : ByteArray).size w' = _
    rw [S_size]
  exact ⟨hl _, hl _, key w, key w.drew, by simp [bytesV], fun u hu => by
    simp only [bytesV, List.mem_map] at hu
    obtain ⟨b, _, rfl⟩ := hu
    rfl⟩
def GV (P : Program) (E : Env) (M : List HP) (F : List Fact) (o : Oper) (ι : Type) (val : ι → Value) (M' : ι → List HP) (F' : ι → List Fact) : Prop :=
  isDefer o.op = false ∧ ∀ ρ : Operand → Value, (∀ x u, evalO E x = some u → ρ x = u) → ∀ w, St w M F → ∃ i w', (execOp ρ o).run P w = .ok (.value (val i)) w' ∧ St w' (M' i) (F' i)
section
variable {P : Program} {r : Option Nat} {N : Nat} {ops : Array Oper} {rest : List Oper} {Q : Exit → Act → World → Prop} {E : Env} {ds : List Deferred} {M : List HP} {F : List Fact}
variable {d : Nat} {ty : TypeId} {pos : String} {aft : Array Edge} {gd : Option (Nat × Bool)}
theorem RL.ofGV {op : Op} {ι : Type} {val : ι → Value} {M' : ι → List HP} {F' : ι → List Fact} (hg : wantedG ops E gd = some true) (hN : Nat.ble (d + 1) N = true) (h : GV P E M F ⟨some d, op, ty, pos, aft, gd⟩ ι val M' F')
    (k : ∀ i, RL P r N ops rest Q ((d, val i) :: E) ds (M' i) (F' i)) : RL P r N ops (⟨some d, op, ty, pos, aft, gd⟩ :: rest) Q E ds M F := RL.gen h.1 hg hN h.2 k
theorem EV.ofGV {o : Oper} {ι : Type} {val : ι → Value} {M' : ι → List HP} {F' : ι → List Fact} (h : GV P E M F o ι val M' F') : EV P r Q E M F o ι val M' F' := EV.of_gen h.1 h.2
theorem GV.append {x y : Operand} {T U e size bytes n cap m j : Nat} {aty : Array TypeId} {oa : Option Addr} {xs ys : List Value} {vy : Value} (ht : tySlice P T e = true) (hu : noInt P U = true) (he : tyElem P e size bytes = true)
    (hx : evalO E x = some (.slice oa n cap)) (hj : M[j]? = some (OwnSl e size oa n cap xs)) (hy : evalO E y = some vy) (hs : ∀ w, St w M F → Src P w size m vy ys) (h63 : n + m ≤ 9223372036854775807) (hb : (n + m) * bytes ≤ 140737488355328) (hT : aty = #[T, U] := by rfl) :
    GV P E M F ⟨some d, .call ⟨.builtin .append, #[x, y], aty⟩, ty, pos, aft, gd⟩ (Option Addr × Nat) (fun i => .slice i.1 (n + m) i.2) (fun i => M.set j (OwnSl e size i.1 (n + m) i.2 (xs ++ ys))) (fun _ => F) := ⟨rfl, fun ρ hρ w hw => by
  subst hT
  have hsrc := hs w hw
  have hf := hw.front hj
  obtain ⟨K, ⟨K1, K2, _, h1, _⟩, _⟩ := hf
  obtain ⟨oa', cap', w', hr, hown, hgr, hat⟩ := run_append (ty := ty) ht hu he h1.1 hsrc h63 hb
  refine ⟨(oa', cap'), w', ?_, ?_⟩
  · simp [execOp, resolve, hρ _ _ hx, hρ _ _ hy, invoke, builtin, hr]
  · refine St.back hj ((hw.front hj).turn hgr.os hgr.tape hgr.output hgr.size fun K hK => ⟨_, ⟨hown, rfl⟩, ?_, fun b hb => ?_, fun b hb hn => hgr.block b hb fun e => ?_⟩)
    · cases oa' <;> simp
    · rcases hat with rfl | rfl
      · exact .inl (by rw [hK.2]; exact hb)
      · simp at hb; exact .inr (by omega)
    · cases oa with
      | none => cases e
      | some a =>
        simp only [Option.map_some, Option.some.injEq] at e
        exact hn (by rw [hK.2]; simp [e])⟩
theorem src_box {b t : Nat} {cs : List Value} {size m c i : Nat} (hi : M[i]? = some (Box b t cs)) (hs : cs.length = m * size) (h1 : cs.all Value.oneCell' = true) : ∀ w, St w M F → Src P w size m (.slice (some ⟨b, 0, none⟩) m c) cs := fun w hw =>
  Src.slice (.inr ⟨b, 0, rfl, by simp, (Array.getElem?_eq_some_iff.1 (hw.heap hi)).1, fun j v hv => by rw [Nat.zero_add, cell_of_box (hw.heap hi)]; exact hv⟩) hs h1
theorem ArrAt.clear {w : World} {K : List Nat} {oa : Option Addr} {xs : List Value} (h : ArrAt w K oa xs) : ArrAt w [] oa xs := by
  rcases h with h | ⟨b, off, e, hc⟩
  · exact .inl h
  · exact .inr ⟨b, off, e, by simp, hc.2⟩
theorem src_fact {oa : Option Addr} {xs : List Value} {size m c : Nat} (hF : ArrF oa xs ∈ F) (hs : xs.length = m * size) (h1 : xs.all Value.oneCell' = true) : ∀ w, St w M F → Src P w size m (.slice oa m c) xs := fun w hw => by
  obtain ⟨K, hK⟩ := hw.fact hF
  exact Src.slice (ArrAt.clear hK) hs h1
theorem src_str (l : List UInt8) : ∀ w, St w M F → Src P w 1 l.length (S l) (bytesV l) := fun _ _ => Src.str l
theorem NX.ret1x {fn : Func} {t : Nat} {v : Value} {ι : Type} {val : ι → Value} {M' : ι → List HP} {F' : ι → List Fact} (hr : fn.results = #[.tmp t]) (ht : look E t = some v) (hS : ∀ w, St w M F → ∃ i, v = val i ∧ St w (M' i) (F' i)) :
    NX N .ret (bodyPost P fn (Post val M' F')) E [] M F := fun a w ha hw => by
  obtain ⟨i, hv, hs⟩ := hS w hw
  refine ⟨ha.defers, v, ?_, i, by rw [hv], hs⟩
  rw [results_tmp hr]
  simp [ha.get t v ht]
theorem NX.ret2x {fn : Func} {t u : Nat} {v v' : Value} {ι : Type} {val : ι → Value} {M' : ι → List HP} {F' : ι → List Fact} (hr : fn.results = #[.tmp t, .tmp u]) (ht : look E t = some v) (hu : look E u = some v') (hS : ∀ w, St w M F → ∃ i, .tuple #[v, v'] = val i ∧ St w (M' i) (F' i)) :
    NX N .ret (bodyPost P fn (Post val M' F')) E [] M F := fun a w ha hw => by
  obtain ⟨i, hv, hs⟩ := hS w hw
  refine ⟨ha.defers, .tuple #[v, v'], ?_, i, by rw [hv], hs⟩
  rw [results_tmp2 hr]
  simp [ha.get t v ht, ha.get u v' hu]
end
end Go.GL

namespace Go.GL
section
variable {P : Program} {r : Option Nat} {N : Nat} {ops : Array Oper} {Q : Exit → Act → World → Prop} {V : Env} {D : List Nat} {E : Env} {ds : List Deferred} {M : List HP} {F : List Fact}
theorem look_append {V W : Env} : ∀ {i : Nat} {v : Value}, look V i = some v → look (V ++ W) i = some v := by
  induction V with
  | nil => intro i v h; cases h
  | cons x V ih =>
    intro i v h
    obtain ⟨k, u⟩ := x
    simp only [List.cons_append, look] at h ⊢
    cases hb : Nat.beq k i with
    | true => rw [hb] at h; exact h
    | false => rw [hb] at h; exact ih h
theorem AR.more (W : Env) (h : AR P r N ops Q (V ++ W) D E ds M F) : AR P r N ops Q V D E ds M F := fun fuel S a w hI hw hl =>
  h fuel S a w ⟨hI.sat0, hI.sat1, fun i hi => by
    obtain ⟨h1, v, hv, hd⟩ := hI.vals i hi
    exact ⟨h1, v, look_append hv, hd⟩, hI.done, hI.nodup, hI.closed⟩ hw hl
theorem AR.part {t : Nat} {b : Bool} {V' : Env} (ht : b = true → AR P r N ops Q ((t, .bool true) :: V') D E ds M F) (hf : b = false → AR P r N ops Q ((t, .bool false) :: V') D E ds M F) : AR P r N ops Q ((t, .bool b) :: V') D E ds M F := by
  cases b
  · exact hf rfl
  · exact ht rfl
theorem AR.weak {M' : List HP} {F' : List Fact} (hs : ∀ w, St w M F → St w M' F') (h : AR P r N ops Q V D E ds M' F') : AR P r N ops Q V D E ds M F := fun fuel S a w hI hw hl => h fuel S a w hI (hs w hw) hl
theorem AR.openP {ι : Sort _} {p : ι → Prop} {M' : ι → List HP} {F' : ι → List Fact} (hk : ∀ w, St w M F → ∃ i, p i ∧ St w (M' i) (F' i)) (h : ∀ i, p i → AR P r N ops Q V D E ds (M' i) (F' i)) : AR P r N ops Q V D E ds M F := fun fuel S a w hI hw hl => by
  obtain ⟨i, hp, hi⟩ := hk w hw
  exact h i hp fuel S a w hI hi hl
theorem PV.cast {o : Oper} {v v' : Value} (e : v = v') (h : PV P E M F o v) : PV P E M F o v' := e ▸ h
def QOne (P : Program) (ops : Array Oper) (V E : Env) (M : List HP) (F : List Fact) (i : Nat) : Prop :=
  ∃ o v, ops[i]? = some o ∧ look V i = some v ∧ ((wantedG ops (envD ops V (depsOf ops i) ++ E) o.guard = some true ∧ PV P (envD ops V (depsOf ops i) ++ E) M F o v) ∨ (wantedG ops (envD ops V (depsOf ops i) ++ E) o.guard = some false ∧ v = undef))
def QAll (P : Program) (ops : Array Oper) (V E : Env) (M : List HP) (F : List Fact) : List Nat → Prop
  | [] => True
  | i :: is => QOne P ops V E M F i ∧ QAll P ops V E M F is
theorem QAll.get {is : List Nat} (h : QAll P ops V E M F is) : ∀ i, i ∈ is → QOne P ops V E M F i := by
  induction is with
  | nil => intro i hi; cases hi
  | cons j js ih =>
    intro i hi
    rcases List.mem_cons.1 hi with e | e
    · exact e ▸ h.1
    · exact ih h.2 i e
theorem QOne.yes {i : Nat} {o : Oper} {v : Value} (ho : ops[i]? = some o) (hv : look V i = some v) (hg : wantedG ops (envD ops V (depsOf ops i) ++ E) o.guard = some true) (h : PV P (envD ops V (depsOf ops i) ++ E) M F o v) : QOne P ops V E M F i := ⟨o, v, ho, hv, .inl ⟨hg, h⟩⟩
theorem QOne.no {i : Nat} {o : Oper} (ho : ops[i]? = some o) (hv : look V i = some undef) (hg : wantedG ops (envD ops V (depsOf ops i) ++ E) o.guard = some false) : QOne P ops V E M F i := ⟨o, undef, ho, hv, .inr ⟨hg, rfl⟩⟩
theorem AR.eff (qs : List Nat) (e : Nat) (ord : List Nat) {o : Oper} {ι : Type} {val : ι → Value} {M' : ι → List HP} {F' : ι → List Fact} (hq : QAll P ops V E M F qs)
    (hord : orderOk ops ord [] = true) (hslots : slotsOk ops E N = true) (hcov : covers ops V D qs [e] = true) (ho : ops[e]? = some o) (hlt : Nat.ble (e + 1) ops.size = true) (hV : look V e = none) (hg : wantedG ops (envD ops V (depsOf ops e) ++ E) o.guard = some true)
    (hev : EV P r Q (envD ops V (depsOf ops e) ++ E) M F o ι val M' F') (k : ∀ x, AR P r N ops Q ((e, val x) :: V) (e :: D) E ds (M' x) (F' x)) : AR P r N ops Q V D E ds M F :=
  AR.phase qs [e] ord hord hslots hcov hq.get (fun i hi => by
    rcases List.mem_cons.1 hi with e' | e'
    · subst e'; exact ⟨hV, o, ι, val, M', F', ho, hg, hev, k⟩
    · cases e') (.inl ⟨e, Nat.le_of_ble_eq_true hlt, hV⟩)
theorem AR.last (qs : List Nat) (ord : List Nat) (hq : QAll P ops V E M F qs) (hord : orderOk ops ord [] = true) (hslots : slotsOk ops E N = true) (hcov : covers ops V D qs [] = true)
    (hend : NX N .normal Q (envD ops V (List.range ops.size) ++ keepE ops E) ds M F) : AR P r N ops Q V D E ds M F :=
  AR.phase qs [] ord hord hslots hcov hq.get (fun i hi => by cases hi) (.inr hend)
theorem EV.store1 {t bt : TypeId} {x y : Operand} {b off : Nat} {cs : List Value} {v : Value} {ty : TypeId} {pos : String} {aft : Array Edge} {gd : Option (Nat × Bool)} (i : Nat) (ht : tyScalar P t = true) (hx : evalO E x = some (.pointer (some ⟨b, off, none⟩))) (hy : evalO E y = some v) (hi : M[i]? = some (Box b bt cs)) (ho : Nat.ble (off + 1) cs.length = true) (h1 : v.oneCell' = true) :
    EV P r Q E M F ⟨none, .store t x y, ty, pos, aft, gd⟩ Unit (fun _ => undef) (fun _ => M.set i (Box b bt (cs.set off v))) (fun _ => F) :=
  EV.of_eff rfl fun ρ hρ w hw => by
    have hb := hw.heap hi
    exact ⟨_, by simp [execOp, hρ _ _ hx, hρ _ _ hy, Instr.storeAt, Instr.sureAddr, run_storeVar_scalar ht hb (Nat.le_of_ble_eq_true ho) h1], hw.setCell hi off v⟩
theorem EV.storeA {t bt : TypeId} {x y : Operand} {b : Nat} {cs vs : List Value} {ty : TypeId} {pos : String} {aft : Array Edge} {gd : Option (Nat × Bool)} (i : Nat) (hx : evalO E x = some (.pointer (some ⟨b, 0, none⟩))) (hy : evalO E y = some (.agg vs.toArray)) (hi : M[i]? = some (Box b bt cs)) (ht : tySize P t vs.length = true) (hl : Nat.beq cs.length vs.length = true) (h1 : vs.all Value.oneCell' = true) :
    EV P r Q E M F ⟨none, .store t x y, ty, pos, aft, gd⟩ Unit (fun _ => undef) (fun _ => M.set i (Box b bt vs)) (fun _ => F) :=
  EV.of_eff rfl fun ρ hρ w hw => by
    have hb := hw.heap hi
    have hl' := Nat.eq_of_beq_eq_true hl
    have hst := run_storeCells_at P b 0 bt vs 0 cs.toArray w hb (by simp; omega) (fun v hv => List.all_eq_true.1 h1 v hv)
    refine ⟨w.setRow b vs.toArray, ?_, hw.setRow hi⟩
    have e : (List.take (0 + 0) cs ++ vs ++ List.drop (0 + 0 + vs.length) cs).toArray = vs.toArray := by
      rw [List.drop_of_length_le (by omega)]; simp
    simp only [e] at hst
    simp [execOp, hρ _ _ hx, hρ _ _ hy, Instr.storeAt, Instr.sureAddr, storeVar, run_sizeOf' ht, Value.cells, hst]
theorem EV.allocA {d : Nat} {t : TypeId} {cs : List Value} {ty : TypeId} {pos : String} {aft : Array Edge} {gd : Option (Nat × Bool)} (hz : ∀ w, (zeroValue t).run P w = .ok (.agg cs.toArray) w) : EV P r Q E M F ⟨some d, .alloc t, ty, pos, aft, gd⟩ Nat (fun b => .pointer (some ⟨b, 0, none⟩)) (fun b => Box b t cs :: M) (fun _ => F) :=
  EV.of_gen rfl fun ρ hρ w hw => ⟨w.heap.size, _, by simp [execOp, Instr.alloc, hz, newVar, newRow, Value.cells], hw.alloc _⟩
theorem EV.alloc1 {d : Nat} {t : TypeId} {z : Value} {ty : TypeId} {pos : String} {aft : Array Edge} {gd : Option (Nat × Bool)} (hz : ∀ w, (zeroValue t).run P w = .ok z w) (h1 : z.oneCell' = true) : EV P r Q E M F ⟨some d, .alloc t, ty, pos, aft, gd⟩ Nat (fun b => .pointer (some ⟨b, 0, none⟩)) (fun b => Box b t [z] :: M) (fun _ => F) :=
  EV.of_gen rfl fun ρ hρ w hw => by
    have hv : z.cells = #[z] := by cases z <;> first | rfl | simp [Value.oneCell'] at h1
    exact ⟨w.heap.size, _, by simp [execOp, Instr.alloc, hz, newVar, newRow, hv], hw.alloc _⟩
theorem EV.buildSlice {d T e len : Nat} {ps : List (Nat × Operand)} {vs : List (Nat × Value)} {cs : List Value} {ty : TypeId} {pos : String} {aft : Array Edge} {gd : Option (Nat × Bool)} (hp : evalParts E ps = some vs) (hb : BuildSV P T e len vs cs) : EV P r Q E M F ⟨some d, .buildSlice T len ps.toArray, ty, pos, aft, gd⟩ Nat (fun b => .slice (some ⟨b, 0, none⟩) len len) (fun b => Box b e cs :: M) (fun _ => F) :=
  EV.of_gen rfl fun ρ hρ w hw => ⟨w.heap.size, _, by simp [execOp, evalParts_map hρ hp, hb w], hw.alloc _⟩
end
end Go.GL
namespace Go.GL
theorem NX.sub {N : Nat} {e : Exit} {Q : Exit → Act → World → Prop} {E E' : Env} {ds : List Deferred} {M : List HP} {F : List Fact} (hs : SubE E E') (h : NX N e Q E' ds M F) : NX N e Q E ds M F := fun a w ha hw => h a w (ha.sub hs) hw
end Go.GL
namespace Go.GL
def doneOk (ops : Array Oper) : List Nat → List Nat → Bool
  | _, [] => true
  | D, j :: js => D.any (fun i => (depsOf ops i).contains j) && doneOk ops (j :: D) js
def addD : List Nat → List Nat → List Nat
  | D, [] => D
  | D, j :: js => addD (j :: D) js
theorem AR.done {P : Program} {r : Option Nat} {N : Nat} {ops : Array Oper} {Q : Exit → Act → World → Prop} {V : Env} {E : Env} {ds : List Deferred} {M : List HP} {F : List Fact} : ∀ {D : List Nat} (js : List Nat), doneOk ops D js = true → AR P r N ops Q V (addD D js) E ds M F → AR P r N ops Q V D E ds M F
  | D, [], _, h => h
  | D, j :: js, hd, h => fun fuel S a w hI hw hl => by
    simp only [doneOk, Bool.and_eq_true] at hd
    refine AR.done js hd.2 h fuel S a w ⟨hI.sat0, hI.sat1, hI.vals, fun i hi => ?_, hI.nodup, hI.closed⟩ hw hl
    rcases List.mem_cons.1 hi with e | e
    · subst e
      obtain ⟨k, hk, hc⟩ := List.any_eq_true.1 hd.1
      exact hI.closed k (hI.done k hk) i (by simpa using hc)
    · exact hI.done i e
end Go.GL
namespace Go.GL
section
variable {P : Program} {r : Option Nat} {N : Nat} {ops : Array Oper} {Q : Exit → Act → World → Prop} {V : Env} {D : List Nat} {E : Env} {ds : List Deferred} {M : List HP} {F : List Fact}
def EOne (P : Program) (r : Option Nat) (N : Nat) (ops : Array Oper) (Q : Exit → Act → World → Prop) (V : Env) (D : List Nat) (E : Env) (ds : List Deferred) (M : List HP) (F : List Fact) (i : Nat) : Prop :=
  look V i = none ∧ ∃ (o : Oper) (ι : Type) (val : ι → Value) (M' : ι → List HP) (F' : ι → List Fact), ops[i]? = some o ∧ wantedG ops (envD ops V (depsOf ops i) ++ E) o.guard = some true ∧
      EV P r Q (envD ops V (depsOf ops i) ++ E) M F o ι val M' F' ∧ ∀ x, AR P r N ops Q ((i, val x) :: V) (i :: D) E ds (M' x) (F' x)
def EAll (P : Program) (r : Option Nat) (N : Nat) (ops : Array Oper) (Q : Exit → Act → World → Prop) (V : Env) (D : List Nat) (E : Env) (ds : List Deferred) (M : List HP) (F : List Fact) : List Nat → Prop
  | [] => True
  | i :: is => EOne P r N ops Q V D E ds M F i ∧ EAll P r N ops Q V D E ds M F is
theorem EAll.get {is : List Nat} (h : EAll P r N ops Q V D E ds M F is) : ∀ i, i ∈ is → EOne P r N ops Q V D E ds M F i := by
  induction is with
  | nil => intro i hi; cases hi
  | cons j js ih =>
    intro i hi
    rcases List.mem_cons.1 hi with e | e
    · exact e ▸ h.1
    · exact ih h.2 i e
theorem EOne.of {i : Nat} {o : Oper} {ι : Type} {val : ι → Value} {M' : ι → List HP} {F' : ι → List Fact} (hV : look V i = none) (ho : ops[i]? = some o) (hg : wantedG ops (envD ops V (depsOf ops i) ++ E) o.guard = some true)
    (hev : EV P r Q (envD ops V (depsOf ops i) ++ E) M F o ι val M' F') (k : ∀ x, AR P r N ops Q ((i, val x) :: V) (i :: D) E ds (M' x) (F' x)) : EOne P r N ops Q V D E ds M F i := ⟨hV, o, ι, val, M', F', ho, hg, hev, k⟩
theorem AR.effs (qs effs : List Nat) (ord : List Nat) (hq : QAll P ops V E M F qs) (hord : orderOk ops ord [] = true) (hslots : slotsOk ops E N = true) (hcov : covers ops V D qs effs = true)
    (hlt : (match effs with | [] => false | e :: _ => Nat.ble (e + 1) ops.size) = true) (h : EAll P r N ops Q V D E ds M F effs) : AR P r N ops Q V D E ds M F :=
  AR.phase qs effs ord hord hslots hcov hq.get h.get (.inl (by
    cases effs with
    | nil => cases hlt
    | cons e es => exact ⟨e, Nat.le_of_ble_eq_true hlt, h.1.1⟩))
end
end Go.GL

namespace Go.GL
namespace Tree
def Small : Nat → Tree → Prop
  | 0, _ => False
  | d + 1, t => t.txt.length ≤ 8 ∧ t.kids.length ≤ 4 ∧ (t.isLeaf = true → t.kids = []) ∧ ∀ k, k ∈ t.kids → Small d k
theorem Small.kid {d : Nat} {t : Tree} (h : Small (d + 1) t) {k : Tree} (hk : k ∈ t.kids) : Small d k := h.2.2.2 k hk
theorem Small.mono {d : Nat} : ∀ {t : Tree} {e : Nat}, Small d t → d ≤ e → Small e t := by
  induction d with
  | zero => intro t e h; exact h.elim
  | succ d ih =>
    intro t e h he
    cases e with
    | zero => omega
    | succ e => exact ⟨h.1, h.2.1, h.2.2.1, fun k hk => ih (h.2.2.2 k hk) (by omega)⟩
end Tree
open Tree
def TreesAt (w : World) (K : List Nat) : List Tree → List Value → Prop
  | [], cs => cs = []
  | t :: ts, cs => ∃ a len cap rest, cs = nodeC t a len cap ++ rest ∧ TreeAt w K t (nodeV t a len cap) ∧ TreesAt w K ts rest
theorem TreesAt.mono {w w' K K'} (e : Evo w K w' K') : ∀ {ts : List Tree} {cs : List Value}, TreesAt w K ts cs → TreesAt w' K' ts cs
  | [], _, h => h
  | _ :: _, _, ⟨a, len, cap, rest, h1, h2, h3⟩ => ⟨a, len, cap, rest, h1, h2.mono e, h3.mono e⟩
theorem TreesAt.append {w K} : ∀ {ts us : List Tree} {cs ds : List Value}, TreesAt w K ts cs → TreesAt w K us ds → TreesAt w K (ts ++ us) (cs ++ ds)
  | [], us, cs, ds, h, h2 => by rw [show cs = [] from h]; exact h2
  | t :: ts, us, cs, ds, ⟨a, len, cap, rest, h1, h2, h3⟩, h4 => ⟨a, len, cap, rest ++ ds, by rw [h1, List.append_assoc], h2, h3.append h4⟩
theorem TreesAt.one {w K} {t : Tree} {a : Option Addr} {len cap : Nat} (h : TreeAt w K t (nodeV t a len cap)) : TreesAt w K [t] (nodeC t a len cap) := ⟨a, len, cap, [], by simp, h, rfl⟩
theorem TreesAt.length {w K} : ∀ {ts : List Tree} {cs : List Value}, TreesAt w K ts cs → cs.length = ts.length * 4
  | [], cs, h => by rw [show cs = [] from h]; rfl
  | t :: ts, cs, ⟨a, len, cap, rest, h1, _, h3⟩ => by
    rw [h1, List.length_append, h3.length, List.length_cons]
    simp
    omega
theorem TreesAt.kids {w K b off} : ∀ {ts : List Tree} {cs : List Value} {o : Nat}, TreesAt w K ts cs → b ∉ K → b < w.heap.size → (∀ j v, cs[j]? = some v → w.cell? ⟨b, off + o + j, none⟩ = some v) → KidsAt w K b (off + o) ts
  | [], cs, o, h, _, _, _ => by simp only [KidsAt]
  | t :: ts, cs, o, ⟨a, len, cap, rest, h1, h2, h3⟩, hb, hl, hc => by
    simp only [KidsAt]
    refine ⟨⟨nodeC t a len cap, ⟨hb, hl, fun j v hv => hc j v (by rw [h1, List.getElem?_append_left (List.getElem?_eq_some_iff.1 hv).1]; exact hv)⟩, h2⟩, ?_⟩
    rw [Nat.add_assoc]
    refine h3.kids (o := o + 4) hb hl fun j v hv => ?_
    have := hc (4 + j) v (by rw [h1, List.getElem?_append_right (by simp)]; simpa using hv)
    rw [show off + (o + 4) + j = off + o + (4 + j) from by omega]
    exact this
theorem St.addFact {w : World} {M : List HP} {F : List Fact} (φ : Fact) (h : St w M F) (hd : ∀ K, FAll F w K → φ.p w K) : St w M (φ :: F) := h.derive hd
theorem open_arr {M F} {oa : Option Addr} {xs : List Value} (hF : ArrF oa xs ∈ F) (h0 : xs ≠ []) : ∀ w, St w M F → ∃ x : Nat × Nat, oa = some ⟨x.1, x.2, none⟩ ∧ St w M (CellsF x.1 x.2 xs :: F) := by
  intro w hw
  obtain ⟨K, ho, hn, hf⟩ := hw
  rcases hf _ hF with h | ⟨b, off, h1, h2⟩
  · exact absurd h h0
  · refine ⟨(b, off), h1, K, ho, hn, fun φ hφ => ?_⟩
    rcases List.mem_cons.1 hφ with e | hφ
    · subst e; exact h2
    · exact hf φ hφ
abbrev ints (xs : List Int) : List Value := xs.map I
theorem ints_get {xs : List Int} {i : Nat} (h : i < xs.length) : (ints xs)[i]? = some (I xs[i]) := by simp [h]
theorem ints_ne {xs : List Int} (h : 0 < xs.length) : ints xs ≠ [] := by
  cases xs with
  | nil => simp at h
  | cons x xs => simp
theorem ints_one (xs : List Int) : (ints xs).all Value.oneCell' = true := by simp [Value.oneCell']
namespace Tree
end Tree
namespace Tree
end Tree
theorem RL.neg {P : Program} {r : Option Nat} {N : Nat} {ops : Array Oper} {rest : List Oper} {Q : Exit → Act → World → Prop} {E : Env} {ds : List Deferred} {M : List HP} {F : List Fact} {d : Nat} {ty : TypeId} {pos : String} {aft : Array Edge} {gd : Option (Nat × Bool)}
    {t : TypeId} {x : Operand} {n : Int} (hg : wantedG ops E gd = some true) (hx : evalO E x = some (I n)) (h0 : -9223372036854775808 ≤ -n) (h1 : -n ≤ 9223372036854775807) (hN : Nat.ble (d + 1) N = true) (k : RL P r N ops rest Q ((d, I (-n)) :: E) ds M F) : RL P r N ops (⟨some d, .unOp .neg t x, ty, pos, aft, gd⟩ :: rest) Q E ds M F :=
  RL.val rfl hg hN (fun ρ hρ w _ => by simp [execOp, hρ _ _ hx, Op.unary, Op.intArith, wrap64_id h0 h1]) k
theorem Ctr.frame1 {P : Program} {f : FuncId} {args : List Value} {F : List Fact} {ι : Type} {val : ι → Value} {F' : ι → List Fact} (L : List HP) {p : HP} {Mi : List HP} {p' : ι → HP}
    (h : Ctr P f args (p :: (L ++ Mi)) F ι val (fun i => p' i :: (L ++ Mi)) F') : Ctr P f args (L ++ p :: Mi) F ι val (fun i => L ++ p' i :: Mi) F' :=
  Ctr.frame (J := [p]) (J' := fun i => [p' i]) L h
namespace Tree
theorem depth_eq (t : Tree) : t.depth = depthAll 0 t.kids + 1 := by cases t; rw [depth]; rfl
theorem depthAll_le {ks : List Tree} {d : Nat} (h : ∀ k, k ∈ ks → k.depth ≤ d) : ∀ m, m ≤ d → depthAll m ks ≤ d := by
  induction ks with
  | nil => intro m hm; exact hm
  | cons x a ih => intro m hm; rw [depthAll]; exact ih (fun k hk => h k (.tail _ hk)) _ (by have := h x (.head _); omega)
theorem Small.depth {d : Nat} : ∀ {t : Tree}, Small d t → t.depth ≤ d := by
  induction d with
  | zero => intro t h; exact h.elim
  | succ d ih =>
    intro t h
    rw [depth_eq]
    have := depthAll_le (fun k hk => ih (h.kid hk)) 0 (Nat.zero_le _)
    omega
end Tree
structure TX where
  t : Tree
  a : Option Addr
  len : Nat
  cap : Nat
abbrev TX.v (x : TX) : Value := nodeV x.t x.a x.len x.cap
abbrev TX.c (x : TX) : List Value := nodeC x.t x.a x.len x.cap
end Go.GL

namespace Go.GL
open Tree
theorem take_splice {α : Type} (cur vs : List α) {off m : Nat} (h : off + vs.length ≤ m) (hm : m ≤ cur.length) : (cur.take off ++ vs ++ cur.drop (off + vs.length)).take m = (cur.take m).take off ++ vs ++ (cur.take m).drop (off + vs.length) := by
  have hl : (cur.take off ++ vs).length = off + vs.length := by rw [List.length_append, List.length_take]; omega
  rw [List.take_append, hl, List.take_of_length_le (by omega), List.take_take, Nat.min_eq_left (by omega), List.drop_take]
theorem own_store {P : Program} {w : World} {M : List HP} {F : List Fact} {i e size n cap b off t : Nat} {oa : Option Addr} {xs vs : List Value} {v : Value} (hw : St w M F) (hi : M[i]? = some (OwnSl e size oa n cap xs)) (hoa : oa = some ⟨b, 0, none⟩) (ht : tySize P t vs.length = true) (hv : v.cells = vs.toArray)
    (ho : off + vs.length ≤ xs.length) (h1 : vs.all Value.oneCell' = true) : ∃ w', (storeVar t ⟨b, off, none⟩ v).run P w = .ok () w' ∧ St w' (M.set i (OwnSl e size oa n cap (xs.take off ++ vs ++ xs.drop (off + vs.length)))) F := by
  obtain ⟨K, ⟨K1, K2, _, hown, _⟩, _⟩ := hw.front hi
  have hxl := hown.1.1
  rcases hown.1.2 with ⟨hn, _⟩ | ⟨g, c, cur, hs, _, hg, hnc, hcm, hcs, htk⟩
  · simp only [Value.slice.injEq, hoa] at hn; exact absurd hn.1 (by simp)
  · have hs0 := hs
    simp only [Value.slice.injEq, hoa] at hs
    obtain ⟨hgb, _, rfl⟩ := hs
    have hgb' : b = g := by simpa using hgb
    subst hgb'
    have hxc : xs.length ≤ cur.toList.length := by rw [← htk, List.length_take]; omega
    have hst := run_storeCells_at P b off e vs 0 cur w hg (by simp at hxc ⊢; omega) (fun u hu => List.all_eq_true.1 h1 u hu)
    simp only [Nat.add_zero] at hst
    refine ⟨w.setRow b (cur.toList.take off ++ vs ++ cur.toList.drop (off + vs.length)).toArray, ?_, ?_⟩
    · simp [storeVar, run_sizeOf' ht, hv, hst]
    · refine St.back hi ((hw.front hi).turn rfl rfl rfl (by simp) fun K hK => ⟨K, ⟨⟨?_, .inr ⟨b, cap, _, hs0, Nat.zero_le _, setRow_heap w b cur _ e _ hg, hnc, hcm, ?_, ?_⟩⟩, hK.2⟩, ?_, fun c hc => .inl hc, fun c _ hn => setRow_other w b c _ (fun ee => hn (by rw [hK.2, hoa]; simp [ee]))⟩)
      · rw [← hxl]; simp only [List.length_append, List.length_take, List.length_drop]; omega
      · simp only [List.size_toArray, List.length_append, List.length_take, List.length_drop, Array.length_toList] at hxc ⊢; omega
      · rw [take_splice _ _ (by omega) (by omega), htk]
      · rw [hK.2]; cases oa <;> simp
theorem own_at {w : World} {M : List HP} {F : List Fact} {i e size n cap : Nat} {oa : Option Addr} {xs : List Value} (hi : M[i]? = some (OwnSl e size oa n cap xs)) (h0 : xs ≠ []) (hw : St w M F) : ∃ b, oa = some ⟨b, 0, none⟩ ∧ St w M F := by
  obtain ⟨K, ⟨K1, K2, _, hown, _⟩, _⟩ := hw.front hi
  rcases hown.1.2 with ⟨hn, h00⟩ | ⟨g, c, cur, hs, _⟩
  · subst h00
    exact absurd (List.eq_nil_of_length_eq_zero (by simpa using hown.1.1)) h0
  · simp only [Value.slice.injEq] at hs; exact ⟨g, hs.1, hw⟩
theorem own_cell {w : World} {M : List HP} {F : List Fact} {i e size n cap b j : Nat} {oa : Option Addr} {xs : List Value} {v : Value} (hw : St w M F) (hi : M[i]? = some (OwnSl e size oa n cap xs)) (hoa : oa = some ⟨b, 0, none⟩) (hj : xs[j]? = some v) : w.cell? ⟨b, j, none⟩ = some v := by
  obtain ⟨K, ⟨K1, K2, _, hown, _⟩, _⟩ := hw.front hi
  rcases OwnSl.cells hown with h | ⟨b', off, h1, h2⟩
  · rw [h] at hj; simp at hj
  · have hz : off = 0 := by
      rcases hown.1.2 with ⟨hn, _⟩ | ⟨g, c, cur, hs, _⟩
      · simp only [Value.slice.injEq] at hn; rw [hn.1] at h1; cases h1
      · simp only [Value.slice.injEq] at hs; rw [hs.1] at h1; simp only [Option.some.injEq, Addr.mk.injEq] at h1; exact h1.2.1.symm
    subst hz
    rw [hoa] at h1
    simp only [Option.some.injEq, Addr.mk.injEq] at h1
    rw [h1.1]
    have := h2.2.2 j v hj
    rwa [Nat.zero_add] at this
theorem own_one {P : Program} {M : List HP} {F : List Fact} {i e size n cap b off t : Nat} {oa : Option Addr} {xs : List Value} {v : Value} (hi : M[i]? = some (OwnSl e size oa n cap xs)) (hoa : oa = some ⟨b, 0, none⟩) (hT : tyScalar P t = true) (hx : xs[off]? = some v) :
    ∀ w, St w M F → Reads P w t ⟨b, off, none⟩ v := fun _ hw => run_loadVar_scalar hT (own_cell hw hi hoa hx)
section
variable {P : Program} {r : Option Nat} {N : Nat} {ops : Array Oper} {rest : List Oper} {Q : Exit → Act → World → Prop} {E : Env} {ds : List Deferred} {M : List HP} {F : List Fact}
variable {ty : TypeId} {pos : String} {aft : Array Edge} {gd : Option (Nat × Bool)}
theorem EV.storeO {t e size n cap b off : Nat} {oa : Option Addr} {xs vs : List Value} {v : Value} {x y : Operand} (i : Nat) (hx : evalO E x = some (.pointer (some ⟨b, off, none⟩))) (hy : evalO E y = some v) (hi : M[i]? = some (OwnSl e size oa n cap xs)) (hoa : oa = some ⟨b, 0, none⟩) (ht : tySize P t vs.length = true) (hv : v.cells = vs.toArray)
    (ho : off + vs.length ≤ xs.length) (h1 : vs.all Value.oneCell' = true) : EV P r Q E M F ⟨none, .store t x y, ty, pos, aft, gd⟩ Unit (fun _ => undef) (fun _ => M.set i (OwnSl e size oa n cap (xs.take off ++ vs ++ xs.drop (off + vs.length)))) (fun _ => F) :=
  EV.of_eff rfl fun ρ hρ w hw => by
    obtain ⟨w', h2, h3⟩ := own_store hw hi hoa ht hv ho h1
    exact ⟨w', by simp [execOp, hρ _ _ hx, hρ _ _ hy, Instr.storeAt, Instr.sureAddr, h2], h3⟩
theorem RL.ofEV {o : Oper} {v : Value} {M' : List HP} (hd : o.dst = none) (hg : wantedG ops E o.guard = some true) (h : EV P r Q E M F o Unit (fun _ => v) (fun _ => M') (fun _ => F)) (k : RL P r N ops rest Q E ds M' F) : RL P r N ops (o :: rest) Q E ds M F := by
  refine RL.step h.1 hg fun a w hs hw => ?_
  refine h.2 a w _ (fun x u hx => hs.eval hx) hw fun i w' hw' => ?_
  rw [hd]
  exact k a w' hs hw'
end
mutual
def OTp (e : Nat) (w : World) : Tree → Option Addr → Nat → Nat → List Nat → Prop
  | .node _ _ _ ks, a, len, cap, K => ∃ cs K1 K2, K = K1 ++ K2 ∧ (OwnSl e 4 a len cap cs).p w K1 ∧ OTsp e w ks cs K2
def OTsp (e : Nat) (w : World) : List Tree → List Value → List Nat → Prop
  | [], cs, K => cs = [] ∧ K = []
  | t :: ts, cs, K => ∃ a len cap rest K1 K2, cs = nodeC t a len cap ++ rest ∧ K = K1 ++ K2 ∧ OTp e w t a len cap K1 ∧ OTsp e w ts rest K2
end
mutual
theorem OTp.loc {e w w'} : ∀ {t a len cap K}, OTp e w t a len cap K → (∀ b, b ∈ K → w'.heap[b]? = w.heap[b]?) → OTp e w' t a len cap K
  | .node _ _ _ ks, a, len, cap, K, h, hs => by
    simp only [OTp] at h ⊢
    obtain ⟨cs, K1, K2, rfl, h1, h2⟩ := h
    exact ⟨cs, K1, K2, rfl, (OwnSl e 4 a len cap cs).loc h1 fun b hb => hs b (by simp [hb]), OTsp.loc h2 fun b hb => hs b (by simp [hb])⟩
theorem OTsp.loc {e w w'} : ∀ {ts cs K}, OTsp e w ts cs K → (∀ b, b ∈ K → w'.heap[b]? = w.heap[b]?) → OTsp e w' ts cs K
  | [], cs, K, h, _ => by simpa only [OTsp] using h
  | t :: ts, cs, K, h, hs => by
    simp only [OTsp] at h ⊢
    obtain ⟨a, len, cap, rest, K1, K2, h0, rfl, h1, h2⟩ := h
    exact ⟨a, len, cap, rest, K1, K2, h0, rfl, OTp.loc h1 fun b hb => hs b (by simp [hb]), OTsp.loc h2 fun b hb => hs b (by simp [hb])⟩
end
mutual
theorem OTp.lt {e w} : ∀ {t a len cap K}, OTp e w t a len cap K → ∀ b, b ∈ K → b < w.heap.size
  | .node _ _ _ ks, a, len, cap, K, h, b, hb => by
    simp only [OTp] at h
    obtain ⟨cs, K1, K2, rfl, h1, h2⟩ := h
    rcases List.mem_append.1 hb with h | h
    · exact (OwnSl e 4 a len cap cs).lt h1 b h
    · exact OTsp.lt h2 b h
theorem OTsp.lt {e w} : ∀ {ts cs K}, OTsp e w ts cs K → ∀ b, b ∈ K → b < w.heap.size
  | [], cs, K, h, b, hb => by simp only [OTsp] at h; rw [h.2] at hb; cases hb
  | t :: ts, cs, K, h, b, hb => by
    simp only [OTsp] at h
    obtain ⟨a, len, cap, rest, K1, K2, h0, rfl, h1, h2⟩ := h
    rcases List.mem_append.1 hb with h | h
    · exact OTp.lt h1 b h
    · exact OTsp.lt h2 b h
end
theorem OTsp.length {e w} : ∀ {ts cs K}, OTsp e w ts cs K → cs.length = ts.length * 4
  | [], cs, K, h => by simp only [OTsp] at h; rw [h.1]; rfl
  | t :: ts, cs, K, h => by
    simp only [OTsp] at h
    obtain ⟨a, len, cap, rest, K1, K2, h0, _, _, h2⟩ := h
    rw [h0, List.length_append, OTsp.length h2, List.length_cons]; simp; omega
theorem OTsp.append {e w} : ∀ {ts us : List Tree} {cs : List Value} {K : List Nat}, OTsp e w (ts ++ us) cs K ↔ ∃ c1 c2 K1 K2, cs = c1 ++ c2 ∧ K = K1 ++ K2 ∧ OTsp e w ts c1 K1 ∧ OTsp e w us c2 K2
  | [], us, cs, K => ⟨fun h => ⟨[], cs, [], K, rfl, rfl, by simp only [OTsp, and_self], h⟩, fun ⟨c1, c2, K1, K2, h1, h2, h3, h4⟩ => by
    simp only [OTsp] at h3; rw [h3.1] at h1; rw [h3.2] at h2; subst h1; subst h2; exact h4⟩
  | t :: ts, us, cs, K => by
    rw [List.cons_append]
    simp only [OTsp]
    constructor
    · rintro ⟨a, len, cap, rest, K1, K2, rfl, rfl, h1, h2⟩
      obtain ⟨c1, c2, K3, K4, rfl, rfl, h3, h4⟩ := OTsp.append.1 h2
      exact ⟨nodeC t a len cap ++ c1, c2, K1 ++ K3, K4, by simp, by simp, ⟨a, len, cap, c1, K1, K3, rfl, rfl, h1, h3⟩, h4⟩
    · rintro ⟨c1, c2, K1, K2, rfl, rfl, ⟨a, len, cap, rest, K3, K4, rfl, rfl, h1, h2⟩, h4⟩
      exact ⟨a, len, cap, rest ++ c2, K3, K4 ++ K2, by simp, by simp, h1, OTsp.append.2 ⟨rest, c2, K4, K2, rfl, rfl, h2, h4⟩⟩
section
variable {w : World} {M : List HP} {F : List Fact} {e : Nat}
end
theorem St.swap {w : World} {a b : HP} {M : List HP} {F : List Fact} (h : St w (a :: b :: M) F) : St w (b :: a :: M) F := h.perm (.swap _ _ _)
namespace Tree
def get : Tree → List Int → Nat → Option (Tree × Nat)
  | t, [], p => some (t, p)
  | t, i :: is, p => if i < 0 then none else match t.kids[i.toNat]? with
    | some k => get k is (p + ((t.kids.take i.toNat).flatMap text).length)
    | none => none
end Tree
end Go.GL

namespace Go.GL
def Emp : HP := ⟨fun _ K => K = [], fun h _ => h, fun h b hb => by rw [h] at hb; cases hb⟩
def Bld (T e b : Nat) (l : List UInt8) : HP := Ex (ι := Bool × Option Addr × Nat) fun i => [Box b T [.pointer (if i.1 then some ⟨b, 0, none⟩ else none), .slice i.2.1 l.length i.2.2], OwnSl e 1 i.2.1 l.length i.2.2 (bytesV l)]
theorem bytesV_append (a b : List UInt8) : bytesV (a ++ b) = bytesV a ++ bytesV b := by simp [bytesV]
theorem bytesV_one (l : List UInt8) : (bytesV l).all Value.oneCell' = true := by
  unfold bytesV
  simp [Value.oneCell']
theorem St.bldNew {w : World} {M : List HP} {F : List Fact} {T e b : Nat} (h : St w (Box b T [.pointer none, .slice none 0 0] :: M) F) : St w (Bld T e b [] :: M) F :=
  St.exClose (false, none, 0) ((OwnSl.nil_new e 1 h).swap)
def tyPtr (P : Program) (t u : Nat) : Bool := match P.underlying t with | some (.pointer v) => Nat.beq v u | _ => false
theorem tyPtr_is {P : Program} {t u : Nat} (h : tyPtr P t u = true) : P.underlying t = some (.pointer u) := by
  unfold tyPtr at h
  split at h
  · rename_i v he; rw [he, Nat.eq_of_beq_eq_true h]
  · cases h
def tyUns (P : Program) (t : Nat) : Bool := match P.underlying t with | some .unsafePointer => true | _ => false
theorem tyUns_is {P : Program} {t : Nat} (h : tyUns P t = true) : P.underlying t = some .unsafePointer := by
  unfold tyUns at h
  split at h
  · rename_i he; exact he
  · cases h
theorem BinV.eqlPtrNil {P : Program} {t u : Nat} {p : Option Addr} (h : tyPtr P t u = true) : BinV P .eql t (.pointer p) (.pointer none) (.bool p.isNone) := ⟨fun w => by
  have h1 := tyPtr_is h
  exact run_eql_pointer_nil w t p (by rw [Program.pointee, h1]), fun _ _ _ => eqGuard_ptr _ _ _⟩
theorem BinV.neqPtrSame {P : Program} {t u n : Nat} {a : Addr} (h : tyPtr P t u = true) (hs : tySize P u n = true) : BinV P .neq t (.pointer (some a)) (.pointer (some a)) (.bool false) := ⟨fun w => by
  have h1 := tyPtr_is h
  unfold tySize at hs
  cases hi : P.info? u with
  | none => rw [hi] at hs; cases hs
  | some j => exact Lib.run_neq_ptr_same w a h1 hi, fun _ _ _ => eqGuard_ptr _ _ _⟩
section
variable {P : Program} {r : Option Nat} {N : Nat} {ops : Array Oper} {rest : List Oper} {Q : Exit → Act → World → Prop} {E : Env} {ds : List Deferred} {M : List HP} {F : List Fact}
variable {d : Nat} {ty : TypeId} {pos : String} {aft : Array Edge} {gd : Option (Nat × Bool)}
theorem box_shape {w : World} {b t i : Nat} {cs : List Value} (hw : St w M F) (hi : M[i]? = some (Box b t cs)) : w.shape? b = some (t, cs.length) := by
  have := hw.heap hi
  simp [World.shape?, this]
theorem RL.toUnsafe {s t u n b bt : Nat} {cs : List Value} {x : Operand} (i : Nat) (hg : wantedG ops E gd = some true) (hs : tyPtr P s u = true) (hz : tySize P u n = true) (hn : Nat.ble 1 n = true) (ht : tyUns P t = true) (hx : evalO E x = some (.pointer (some ⟨b, 0, none⟩))) (hi : M[i]? = some (Box b bt cs)) (hc : Nat.ble 1 cs.length = true) (hN : Nat.ble (d + 1) N = true)
    (k : RL P r N ops rest Q ((d, .pointer (some ⟨b, 0, none⟩)) :: E) ds M F) : RL P r N ops (⟨some d, .convert s t x, ty, pos, aft, gd⟩ :: rest) Q E ds M F :=
  RL.val rfl hg hN (fun ρ hρ w hw => by
    unfold tySize at hz
    cases hi2 : P.info? u with
    | none => rw [hi2] at hz; cases hz
    | some j =>
      rw [hi2] at hz
      have hj : j.size = n := by simpa using hz
      have := Lib.run_to_unsafe w ⟨b, 0, none⟩ (tyPtr_is hs) (tyUns_is ht) hi2 (by rw [hj]; have := Nat.le_of_ble_eq_true hn; omega) (box_shape hw hi) (Nat.le_of_ble_eq_true hc)
      simp [execOp, hρ _ _ hx, this]) k
theorem RL.fromUnsafe {s t u n b bt : Nat} {cs : List Value} {x : Operand} (i : Nat) (hg : wantedG ops E gd = some true) (hs : tyUns P s = true) (hz : tySize P u n = true) (ht : tyPtr P t u = true) (hx : evalO E x = some (.pointer (some ⟨b, 0, none⟩))) (hi : M[i]? = some (Box b bt cs)) (hl : liesAt P P.depth bt (cs.length / P.cellsOf bt) 0 u 1 = true) (hN : Nat.ble (d + 1) N = true)
    (k : RL P r N ops rest Q ((d, .pointer (some ⟨b, 0, none⟩)) :: E) ds M F) : RL P r N ops (⟨some d, .convert s t x, ty, pos, aft, gd⟩ :: rest) Q E ds M F :=
  RL.val rfl hg hN (fun ρ hρ w hw => by
    unfold tySize at hz
    cases hi2 : P.info? u with
    | none => rw [hi2] at hz; cases hz
    | some j =>
      have := Lib.run_from_unsafe w ⟨b, 0, none⟩ (tyUns_is hs) (tyPtr_is ht) hi2 (box_shape hw hi) hl
      simp [execOp, hρ _ _ hx, this]) k
theorem RL.callX {f : FuncId} {asx : List Operand} {ats : Array TypeId} {vs : List Value} {v : Value} (hg : wantedG ops E gd = some true) (ha : evalArgs E asx = some vs) (hcall : ∀ w, (callFunc f vs.toArray).run P w = .ok (.value v) w) (hN : Nat.ble (d + 1) N = true)
    (k : RL P r N ops rest Q ((d, v) :: E) ds M F) : RL P r N ops (⟨some d, .call ⟨.value (.func f), asx.toArray, ats⟩, ty, pos, aft, gd⟩ :: rest) Q E ds M F :=
  RL.val rfl hg hN (fun ρ hρ w _ => by
    have h1 := hρ (.func f) (.func (.func f) #[] #[]) rfl
    have h2 := args_of hρ ha
    have h3 := hcall w
    simp [execOp, resolve, h1, h2, Deferred.ofValue, invoke, h3]) k
theorem GV.sliceData {x : Operand} {T n cap : Nat} {oa : Option Addr} {e : Nat} {bytes : List Value} {j : Nat} (hty : tyPtr P ty e = true) (hx : evalO E x = some (.slice oa n cap)) (hj : M[j]? = some (OwnSl e 1 oa n cap bytes)) :
    GV P E M F ⟨some d, .call ⟨.builtin .unsafeSliceData, #[x], #[T]⟩, ty, pos, aft, gd⟩ {p : Option Addr // n ≠ 0 → p = oa} (fun p => .pointer p.1) (fun _ => M) (fun _ => F) := ⟨rfl, fun ρ hρ w hw => by
  have hf := hw.front hj
  obtain ⟨K, ⟨K1, K2, _, h1, _⟩, _⟩ := hf
  rcases h1.1.2 with ⟨hv, h0⟩ | ⟨g, c, cur, hv, hb, hg, hc, hm, hs, ht⟩
  · simp only [Value.slice.injEq] at hv
    obtain ⟨rfl, rfl, rfl⟩ := hv
    exact ⟨⟨none, fun _ => rfl⟩, w, by simp [execOp, resolve, hρ _ _ hx, invoke, builtin, Lib.run_unsafeSliceData_nil], hw⟩
  · simp only [Value.slice.injEq] at hv
    obtain ⟨rfl, _, rfl⟩ := hv
    by_cases h0 : cap = 0
    · subst h0
      have := Lib.run_unsafeSliceData_zero (P := P) w #[T] ty e (tyPtr_is hty) ⟨g, 0, none⟩ n (e, cur.size) (by simp [World.shape?, hg])
      refine ⟨⟨some ⟨w.heap.size, 0, none⟩, fun h => by omega⟩, w.alloc (.view ⟨g, 0, none⟩ e), by simp [execOp, resolve, hρ _ _ hx, invoke, builtin, this], (hw.alloc _).tail⟩
    · exact ⟨⟨some ⟨g, 0, none⟩, fun _ => rfl⟩, w, by simp [execOp, resolve, hρ _ _ hx, invoke, builtin, Lib.run_unsafeSliceData_row _ _ _ _ _ _ h0], hw⟩⟩
theorem freeze_other {w : World} {a : Addr} {n c : Nat} (h : c ≠ a.block) : (w.freeze a n).heap[c]? = w.heap[c]? := by
  unfold World.freeze
  split
  · rfl
  · have h2 : ¬ a.block = c := fun e => h e.symm
    rw [Array.getElem?_modify, if_neg h2]
theorem freeze_size {w : World} {a : Addr} {n : Nat} : (w.freeze a n).heap.size = w.heap.size := by
  unfold World.freeze
  split <;> simp
theorem freeze_rest {w : World} {a : Addr} {n : Nat} : (w.freeze a n).os = w.os ∧ (w.freeze a n).tape = w.tape ∧ (w.freeze a n).output = w.output := by
  unfold World.freeze
  split <;> exact ⟨rfl, rfl, rfl⟩
theorem GV.unsafeString {x y : Operand} {T U cap e j : Nat} {p oa : Option Addr} {l : List UInt8} (hT : tyPtr P T e = true) (hc : Nat.beq (P.cellsOf e) 1 = true) (hx : evalO E x = some (.pointer p)) (hy : evalO E y = some (I l.length)) (hp : l.length ≠ 0 → p = oa) (h63 : l.length ≤ 9223372036854775807) (hj : M[j]? = some (OwnSl e 1 oa l.length cap (bytesV l))) :
    GV P E M F ⟨some d, .call ⟨.builtin .unsafeString, #[x, y], #[T, U]⟩, ty, pos, aft, gd⟩ Unit (fun _ => S l) (fun _ => M.set j Emp) (fun _ => F) := ⟨rfl, fun ρ hρ w hw => by
  have hf := hw.front hj
  by_cases h0 : l = []
  · subst h0
    have := Lib.run_unsafeString_none (P := P) w T U ty p
    refine ⟨(), w, by
      have e0 : (I (([] : List UInt8).length : Nat)) = .int .i64 0 := rfl
      rw [e0] at hy
      simp [execOp, resolve, hρ _ _ hx, hρ _ _ hy, invoke, builtin, this]
      rfl, St.back hj (hf.turn rfl rfl rfl (Nat.le_refl _) fun K hK => ⟨[], rfl, List.nodup_nil, fun b hb => (by cases hb), fun _ _ _ => rfl⟩)⟩
  · have hl0 : l.length ≠ 0 := fun h => h0 (List.eq_nil_of_length_eq_zero h)
    have hpo := hp hl0
    obtain ⟨K, ⟨K1, K2, _, h1, _⟩, _⟩ := hf
    rcases h1.1.2 with ⟨hv, hh⟩ | ⟨g, c, cur, hv, hb, hg, hc2, hm, hs, ht⟩
    · exact absurd hh hl0
    · simp only [Value.slice.injEq] at hv
      obtain ⟨rfl, _, rfl⟩ := hv
      subst hpo
      have hcell : ∀ i u, l[i]? = some u → w.cell? ((⟨g, 0, none⟩ : Addr).add i) = some (.int .u8 u.toNat) := by
        intro i u hi
        rw [addr_add, Nat.zero_add]
        exact own_cell hw hj rfl (by unfold bytesV; simp [hi])
      have := Lib.run_unsafeString_row (P := P) w T U ty e (tyPtr_is hT) (Nat.eq_of_beq_eq_true hc) g cur.size (by simp [World.shape?, hg]) l h0 (by omega) h63 hcell
      refine ⟨(), w.freeze ⟨g, 0, none⟩ l.length, by simp [execOp, resolve, hρ _ _ hx, hρ _ _ hy, invoke, builtin, this], St.back hj ((hw.front hj).turn freeze_rest.1 freeze_rest.2.1 freeze_rest.2.2 (by rw [freeze_size]; exact Nat.le_refl _) fun K hK => ⟨[], rfl, List.nodup_nil, fun b hb => (by cases hb), fun b _ hb => freeze_other (fun ee => hb (by rw [hK.2]; simp [ee]))⟩)⟩⟩
end
theorem BinV.to {P : Program} {op : BinOp} {t : TypeId} {a b : Value} {c d : Bool} (h : BinV P op t a b (.bool c)) (e : c = d) : BinV P op t a b (.bool d) := e ▸ h
theorem St.boxArr {w : World} {M : List HP} {F : List Fact} {b t : Nat} {cs : List Value} (h : St w (Box b t cs :: M) F) : St w M (ArrF (some ⟨b, 0, none⟩) cs :: F) := by
  obtain ⟨K, ho, hn, hf⟩ := h.keep
  refine ⟨K, ho, hn, fun φ hφ => ?_⟩
  rcases List.mem_cons.1 hφ with e | e
  · subst e; exact .inr ⟨b, 0, rfl, hf _ (.head _)⟩
  · exact hf φ (.tail _ e)
end Go.GL

namespace Go.GL
open Go.ChangeShapes Go.WideShapes Go.ChangeAt Go.RowKit Go.GL.Tree
def OldF (W : World) : Fact := ⟨fun w K => Below W.heap.size W w ∧ ∀ b, b ∈ K → W.heap.size ≤ b, fun {w K w' K'} ⟨h1, h2⟩ e => by
  refine ⟨⟨e.os.trans h1.os, e.tape.trans h1.tape, e.output.trans h1.output, Nat.le_trans h1.size e.size, fun k hk => ?_⟩, fun b hb => ?_⟩
  · exact (e.same k (Nat.lt_of_lt_of_le hk h1.size) fun hkK => by have := h2 k hkK; omega).trans (h1.block k hk)
  · rcases e.keys b hb with h | h
    · exact h2 b h
    · exact Nat.le_trans h1.size h⟩
theorem OldF.start (W : World) : (OldF W).p W [] := ⟨Below.refl _ _, fun b hb => by cases hb⟩
theorem law_run {P : Program} {f : FuncId} {args : List Value} {W : World} {F : List Fact} {v : Value} (h : Ctr P f args [] (OldF W :: F) Unit (fun _ => v) (fun _ => []) (fun _ => OldF W :: F)) (hF : FAll F W []) :
    Calls P f args.toArray W fun e W' => e = .returned v ∧ Below W.heap.size W W' := by
  have h0 : St W [] (OldF W :: F) := ⟨[], rfl, List.nodup_nil, fun φ hφ => by
    rcases List.mem_cons.1 hφ with e | e
    · subst e; exact OldF.start W
    · exact hF φ e⟩
  have h1 : CallsIn Fence.wide 0 P f args.toArray W (Post (fun _ => v) (fun _ => []) (fun _ : Unit => OldF W :: F)) := h W h0
  refine (callsIn_wide.1 h1).mono ?_
  rintro e w' ⟨_, he, K, ho, _, hf⟩
  have hK : K = [] := ho
  subst hK
  exact ⟨he, (hf _ (.head _)).1⟩
section
variable {H : Type} {enc : TypeId × Value → H} {P : Program} {W W' : World}
theorem trodAll_below (hl : laidOutB P = true) : ∀ {ts : List TypeId} {vs : List Value} {ds : List (DataW H)} {ps : List MemPlace}, (ts.all fun t => P.readableRec t && Nat.ble (t + 1) P.types.size) = true →
    DataW.TrodAll enc P W 0 (fun _ => true) true ts vs ds ps → Below W.heap.size W W' → (∀ x, x ∈ ps → x.block < W.heap.size) → DataW.TrodAll enc P W' 0 (fun b => decide (b < W.heap.size)) true ts vs ds ps
  | [], [], [], _, _, h, _, _ => h
  | [], _ :: _, _, _, _, h, _, _ => h.elim
  | [], [], _ :: _, _, _, h, _, _ => h.elim
  | _ :: _, [], _, _, _, h, _, _ => h.elim
  | _ :: _, _ :: _, [], _, _, h, _, _ => h.elim
  | t :: ts, v :: vs, d :: ds, ps, ht, ⟨p, q, h1, h2, e⟩, hb, hlt => by
    simp only [List.all_cons, Bool.and_eq_true] at ht
    exact ⟨p, q, Below.trod hl ht.1.1 (Nat.le_of_ble_eq_true ht.1.2) h1 hb fun x hx => hlt x (by rw [e]; simp [hx]), trodAll_below hl ht.2 h2 hb fun x hx => hlt x (by rw [e]; simp [hx]), e⟩
theorem law_post {f : Func} {s : ChangeSpec} {args : Array Value} {ds gs : List (DataW H)} {before : List MemPlace} {tb : TypeId} (hl : laidOutB P = true) (hts : (f.params.toList.all fun t => P.readableRec t && Nat.ble (t + 1) P.types.size) = true)
    (hv : s.vars = []) (hres : f.resultTypes = #[tb]) (htb : P.underlying tb = some .bool) (hfn : s.fn H ds = { results := [.lit (.bool true)], args := ds }) (hW : DataW.Whole enc P f.params.toList s.vars false W args.toList ds gs before) (hb : Below W.heap.size W W') :
    s.post enc P f false true false false W args (.bool true) W' := by
  have hlt : ∀ x, x ∈ before → x.block < W.heap.size := fun x hx => by simpa using hW.lt x hx
  have hW' := hW
  obtain ⟨p, q, hA, hV, rfl, hfz, hnd⟩ := hW
  rw [hv] at hV
  obtain ⟨rfl, rfl⟩ := trodVars_none hV
  refine ⟨ds, [], p ++ [], [], p, [], hW', ?_, ?_, ?_, hb.frame _, fun h => by cases h⟩
  · rw [List.append_nil, hfn, hres]
    exact trodAll_mk1 (shut_bool htb _)
  · rw [List.append_nil, hfn]
    exact trodAll_below hl hts hA hb fun x hx => hlt x (by simp [hx])
  · rw [hv, List.append_nil, hfn]; exact rfl
end
section
variable {H : Type} {enc : TypeId × Value → H} {P : Program} {w : World}
theorem in_ints {t e : TypeId} {fuel : Nat} {cs : List Value} {x : DataW H × List MemPlace} (ht : P.underlying t = some (.slice e)) (he : P.underlying e = some (.int .i64)) (hc : P.cellsOf e = 1) (h : DataW.trod enc P w 0 (fun _ => true) true fuel t cs = some x) :
    ∃ (oa : Option Addr) (ca : Nat) (xs : List Int), cs = [.slice oa xs.length ca] ∧ ArrAt w [] oa (ints xs) ∧ xs.length ≤ ca ∧ ca ≤ maxLen ∧ ∀ x, x ∈ xs → -9223372036854775808 ≤ x ∧ x ≤ 9223372036854775807 := by
  rcases open_ints ht he hc h with ⟨h1, _⟩ | ⟨a, len, cap, zs, h1, _, h3, h4, h5, _, h7, h8⟩
  · exact ⟨none, 0, [], h1, .inl rfl, Nat.le_refl _, Nat.zero_le _, fun x hx => by cases hx⟩
  · have hl : (zs.take len).length = len := by rw [List.length_take]; simp only [if_true] at h5; omega
    refine ⟨some a, cap, zs.take len, by rw [hl]; exact h1, ?_, by omega, h4, fun z hz => ?_⟩
    · by_cases h0 : zs.take len = []
      · exact .inl (by rw [h0]; rfl)
      · have hpos : 0 < zs.length := by
          cases zs with
          | nil => simp at h0
          | cons z zs => simp
        have hc0 := h7 0 hpos
        have hsp : a.spot = none := by have := World.cell?_spot hc0; simpa [Addr.add] using this
        obtain ⟨b, off, sp⟩ := a
        simp only at hsp
        subst hsp
        refine .inr ⟨b, off, rfl, by simp, ?_, fun j v hj => ?_⟩
        · unfold World.cell? at hc0
          simp only [Addr.add, if_true] at hc0
          cases hh : w.heap[b]? with
          | none => rw [hh] at hc0; cases hc0
          | some o => exact (Array.getElem?_eq_some_iff.1 hh).1
        · rw [List.getElem?_map] at hj
          cases hz : (zs.take len)[j]? with
          | none => rw [hz] at hj; cases hj
          | some z =>
            rw [hz] at hj
            simp only [Option.map_some, Option.some.injEq] at hj
            subst hj
            rw [List.getElem?_take] at hz
            split at hz
            · have hjl := (List.getElem?_eq_some_iff.1 hz).1
              have := h7 j hjl
              rw [addr_add] at this
              rw [this]
              simp [List.getD, hz]
            · cases hz
    · have := h8 z (List.mem_of_mem_take hz)
      simp only [Lit.wf, Bool.and_eq_true, decide_eq_true_eq, IntKind.has] at this
      simp [IntKind.min, IntKind.max, IntKind.signed, IntKind.bits] at this
      omega
end
def isI64 (P : Program) (t : TypeId) : Bool := match P.underlying t with | some (.int .i64) => true | _ => false
def isSl (P : Program) (t e : TypeId) : Bool := match P.underlying t with | some (.slice u) => Nat.beq u e | _ => false
theorem isI64_is {P : Program} {t : TypeId} (h : isI64 P t = true) : P.underlying t = some (.int .i64) := by
  unfold isI64 at h
  split at h
  · rename_i he; exact he
  · cases h
theorem isSl_is {P : Program} {t e : TypeId} (h : isSl P t e = true) : P.underlying t = some (.slice e) := by
  unfold isSl at h
  split at h
  · rename_i u he; rw [he, Nat.eq_of_beq_eq_true h]
  · cases h
theorem in_ints1 {H : Type} {enc : TypeId × Value → H} {P : Program} {W : World} {r : Reach} {b0 t e : Nat} {v : Value} {d : DataW H} {ps : List MemPlace} (hs : isSl P t e = true) (he : isI64 P e = true) (hc : Nat.beq (P.cellsOf e) 1 = true) (hval : Value.okWide P W r b0 t v) (h : DataW.Trod enc P W 0 (fun _ => true) true t v d ps) :
    ∃ (oa : Option Addr) (ca : Nat) (xs : List Int), v = .slice oa xs.length ca ∧ ArrAt W [] oa (ints xs) ∧ xs.length ≤ ca ∧ ca ≤ maxLen ∧ ∀ x, x ∈ xs → -9223372036854775808 ≤ x ∧ x ≤ 9223372036854775807 := by
  obtain ⟨fuel, hf⟩ := h
  obtain ⟨oa, ca, xs, e1, h2⟩ := in_ints (isSl_is hs) (isI64_is he) (Nat.eq_of_beq_eq_true hc) hf
  refine ⟨oa, ca, xs, ?_, h2⟩
  cases v <;> simp [Value.cells] at e1 ⊢
  all_goals first | exact e1 | (exfalso; unfold Value.okWide at hval; rw [isSl_is hs] at hval; simp [Cell.okWide, Cell.ok, isSl_is hs] at hval)
end Go.GL

namespace Go.GL
abbrev U (n : Nat) : Value := .int .u64 (n : Int)
abbrev B8 (n : Nat) : Value := .int .u8 (n : Int)
theorem wrap_u64 (n : Nat) : IntKind.u64.wrap (n : Int) = ((n % 18446744073709551616 : Nat) : Int) := by
  simp [IntKind.wrap, IntKind.bits, IntKind.signed]
theorem wrap_u64i (n : Int) : IntKind.u64.wrap n = n % 18446744073709551616 := by
  simp [IntKind.wrap, IntKind.bits, IntKind.signed]
theorem wrap_u8 (n : Nat) : IntKind.u8.wrap (n : Int) = ((n % 256 : Nat) : Int) := by
  simp [IntKind.wrap, IntKind.bits, IntKind.signed]
theorem wrap_u64_id {n : Nat} (h : n < 18446744073709551616) : IntKind.u64.wrap (n : Int) = (n : Int) := by rw [wrap_u64, Nat.mod_eq_of_lt h]
section
variable {P : Program} {t : TypeId} {a b : Nat}
theorem BinV.bitsK {op : BinOp} {k : IntKind} {x y : Int} (ho : op = .and ∨ op = .or ∨ op = .xor ∨ op = .andNot) : BinV P op t (.int k x) (.int k y) (.int k (bits op k x y)) := ⟨fun w => by
  rcases ho with rfl | rfl | rfl | rfl <;> simp [binOp, Op.intBits, bits], fun _ _ _ => eqGuard_int _ _ _⟩
theorem BinV.orU (ha : a < 18446744073709551616) (hb : b < 18446744073709551616) : BinV P .or t (U a) (U b) (U (a ||| b)) := by
  have h := BinV.bitsK (P := P) (t := t) (op := .or) (k := .u64) (x := (a : Int)) (y := (b : Int)) (by simp)
  rwa [u64_or_nat a b ha hb] at h
theorem BinV.xorU (ha : a < 18446744073709551616) (hb : b < 18446744073709551616) : BinV P .xor t (U a) (U b) (U (a ^^^ b)) := by
  have h := BinV.bitsK (P := P) (t := t) (op := .xor) (k := .u64) (x := (a : Int)) (y := (b : Int)) (by simp)
  rwa [u64_xor_nat a b ha hb] at h
theorem BinV.andU (ha : a < 18446744073709551616) (hb : b < 18446744073709551616) : BinV P .and t (U a) (U b) (U (a &&& b)) := by
  have h := BinV.bitsK (P := P) (t := t) (op := .and) (k := .u64) (x := (a : Int)) (y := (b : Int)) (by simp)
  rwa [u64_and_nat a b ha hb] at h
theorem BinV.orB (ha : a < 256) (hb : b < 256) : BinV P .or t (B8 a) (B8 b) (B8 (a ||| b)) := by
  have h := BinV.bitsK (P := P) (t := t) (op := .or) (k := .u8) (x := (a : Int)) (y := (b : Int)) (by simp)
  rwa [u8_or_nat a b ha hb] at h
theorem BinV.xorB (ha : a < 256) (hb : b < 256) : BinV P .xor t (B8 a) (B8 b) (B8 (a ^^^ b)) := by
  have h := BinV.bitsK (P := P) (t := t) (op := .xor) (k := .u8) (x := (a : Int)) (y := (b : Int)) (by simp)
  rwa [u8_xor_nat a b ha hb] at h
theorem BinV.clear7 (ha : a < 256) : BinV P .andNot t (B8 a) (.int .u8 128) (B8 (a % 128)) := by
  have h := BinV.bitsK (P := P) (t := t) (op := .andNot) (k := .u8) (x := (a : Int)) (y := ((128 : Nat) : Int)) (by simp)
  rw [u8_andNot_nat a 128 ha (by omega), show a &&& (255 - 128) = a % 128 from Nat.and_two_pow_sub_one_eq_mod a 7] at h
  exact h
theorem BinV.shl {k yk : IntKind} {x : Int} {s : Nat} (hs : s ≤ k.bits) : BinV P .shl t (.int k x) (.int yk (s : Int)) (.int k (k.wrap (x * 2 ^ s))) := ⟨fun w => by
  have h1 : ¬ ((s : Int) < 0) := by omega
  simp only [binOp, Op.shift, if_neg h1, Int.toNat_natCast, Nat.min_eq_left hs]; rfl, fun _ _ _ => eqGuard_int _ _ _⟩
theorem BinV.shr {k yk : IntKind} {x : Int} {s : Nat} (hs : s ≤ k.bits) : BinV P .shr t (.int k x) (.int yk (s : Int)) (.int k (x.fdiv (2 ^ s))) := ⟨fun w => by
  have h1 : ¬ ((s : Int) < 0) := by omega
  simp only [binOp, Op.shift, if_neg h1, Int.toNat_natCast, Nat.min_eq_left hs]; rfl, fun _ _ _ => eqGuard_int _ _ _⟩
theorem BinV.shlU {yk : IntKind} {s : Nat} (hs : s ≤ 64) : BinV P .shl t (U a) (.int yk (s : Int)) (U (a * 2 ^ s % 18446744073709551616)) := by
  have h := BinV.shl (P := P) (t := t) (k := .u64) (yk := yk) (x := (a : Int)) (s := s) hs
  rw [show ((a : Int) * 2 ^ s) = ((a * 2 ^ s : Nat) : Int) from by push_cast; rfl, wrap_u64] at h
  exact h
theorem BinV.shlB {yk : IntKind} {s : Nat} (hs : s ≤ 8) : BinV P .shl t (B8 a) (.int yk (s : Int)) (B8 (a * 2 ^ s % 256)) := by
  have h := BinV.shl (P := P) (t := t) (k := .u8) (yk := yk) (x := (a : Int)) (s := s) hs
  rw [show ((a : Int) * 2 ^ s) = ((a * 2 ^ s : Nat) : Int) from by push_cast; rfl, wrap_u8] at h
  exact h
theorem BinV.shrU {yk : IntKind} {s : Nat} (hs : s ≤ 64) : BinV P .shr t (U a) (.int yk (s : Int)) (U (a / 2 ^ s)) := by
  have h := BinV.shr (P := P) (t := t) (k := .u64) (yk := yk) (x := (a : Int)) (s := s) hs
  rw [show (a : Int).fdiv (2 ^ s) = ((a / 2 ^ s : Nat) : Int) from by
    rw [Int.fdiv_eq_ediv_of_nonneg _ (by exact_mod_cast Nat.zero_le _)]; push_cast; rfl] at h
  exact h
theorem BinV.addU (h : a + b < 18446744073709551616) : BinV P .add t (U a) (U b) (U (a + b)) := by
  have h1 := BinV.addW (P := P) (t := t) (k := .u64) (x := (a : Int)) (y := (b : Int))
  rw [← Int.natCast_add, wrap_u64_id h] at h1
  exact h1
theorem BinV.remK {k : IntKind} (hb : b ≠ 0) : BinV P .rem t (.int k (a : Int)) (.int k (b : Int)) (.int k ((a % b : Nat) : Int)) := by
  have h1 := BinV.rem (P := P) (t := t) (k := k) (x := (a : Int)) (y := (b : Int)) (by omega)
  rw [show (a : Int).tmod (b : Int) = ((a % b : Nat) : Int) from by rw [Int.tmod_eq_emod_of_nonneg (by omega)]; rfl] at h1
  exact h1
end
theorem xor_ones {a : Nat} (ha : a < 18446744073709551616) : a ^^^ 18446744073709551615 = 18446744073709551615 - a := by
  have h := BitVec.toNat_not (x := BitVec.ofNat 64 a)
  have e : (~~~(BitVec.ofNat 64 a)).toNat = a ^^^ 18446744073709551615 := by
    rw [← BitVec.xor_allOnes]
    rw [BitVec.toNat_xor, BitVec.toNat_ofNat, BitVec.toNat_allOnes, Nat.mod_eq_of_lt ha]
  rw [← e, h, BitVec.toNat_ofNat, Nat.mod_eq_of_lt ha]
def tyInt (P : Program) (t : TypeId) (k : IntKind) : Bool := match P.underlying t with | some (.int k') => k' == k | _ => false
theorem tyInt_is {P : Program} {t : TypeId} {k : IntKind} (h : tyInt P t k = true) : P.underlying t = some (.int k) := by
  unfold tyInt at h
  split at h
  · rename_i k' he; rw [he, eq_of_beq h]
  · cases h
def ConvV (P : Program) (s t : TypeId) (v v' : Value) : Prop := ∀ w, (convert s t v).run P w = .ok v' w
section
variable {P : Program} {s t : TypeId} {k j : IntKind} {n : Int}
theorem ConvV.int (hs : tyInt P s k = true) (ht : tyInt P t j = true) : ConvV P s t (.int k n) (.int j (j.wrap n)) := fun w => by
  simp [convert, run_underlying (tyInt_is hs), run_underlying (tyInt_is ht), Conv.intToInt]
theorem ConvV.to {v v' v'' : Value} (h : ConvV P s t v v') (e : v' = v'') : ConvV P s t v v'' := e ▸ h
theorem ConvV.iu {n : Nat} (hs : tyInt P s .i64 = true) (ht : tyInt P t .u64 = true) (h : n < 18446744073709551616) : ConvV P s t (I (n : Int)) (U n) := (ConvV.int hs ht).to (by rw [wrap_u64_id h])
theorem ConvV.ub {n : Nat} (hs : tyInt P s .u64 = true) (ht : tyInt P t .u8 = true) : ConvV P s t (U n) (B8 (n % 256)) := (ConvV.int hs ht).to (by rw [wrap_u8])
theorem ConvV.bu {n : Nat} (hs : tyInt P s .u8 = true) (ht : tyInt P t .u64 = true) (h : n < 18446744073709551616) : ConvV P s t (B8 n) (U n) := (ConvV.int hs ht).to (by rw [wrap_u64_id h])
theorem ConvV.uiS {n : Nat} (hs : tyInt P s .u64 = true) (ht : tyInt P t .i64 = true) (h : n < 9223372036854775808) : ConvV P s t (U n) (I (n : Int)) := (ConvV.int hs ht).to (by rw [wrap64_id (by omega) (by omega)])
end
section
variable {P : Program} {r : Option Nat} {N : Nat} {ops : Array Oper} {rest : List Oper} {Q : Exit → Act → World → Prop} {E : Env} {ds : List Deferred} {M : List HP} {F : List Fact}
variable {d : Nat} {ty : TypeId} {pos : String} {aft : Array Edge} {gd : Option (Nat × Bool)}
theorem PV.conv {s t : TypeId} {x : Operand} {v v' : Value} (hx : evalO E x = some v) (h : ConvV P s t v v') : PV P E M F ⟨some d, .convert s t x, ty, pos, aft, gd⟩ v' := ⟨rfl, fun ρ hρ w _ => by
  have h1 := h w
  simp [execOp, hρ _ _ hx, h1]⟩
theorem RL.conv {s t : TypeId} {x : Operand} {v v' : Value} (hg : wantedG ops E gd = some true) (hx : evalO E x = some v) (h : ConvV P s t v v') (hN : Nat.ble (d + 1) N = true) (k : RL P r N ops rest Q ((d, v') :: E) ds M F) : RL P r N ops (⟨some d, .convert s t x, ty, pos, aft, gd⟩ :: rest) Q E ds M F :=
  RL.val rfl hg hN (fun ρ hρ w _ => by
    have h1 := h w
    simp [execOp, hρ _ _ hx, h1]) k
def Rd (M : List HP) (F : List Fact) (oa : Option Addr) (xs : List Value) : Prop := ∀ w, St w M F → ArrAt w [] oa xs
theorem rd_fact {oa : Option Addr} {xs : List Value} (h : ArrF oa xs ∈ F) : Rd M F oa xs := fun w hw => by
  obtain ⟨K, hK⟩ := hw.fact h
  exact ArrAt.clear hK
theorem rd_own {oa : Option Addr} {e size n cap i : Nat} {xs : List Value} (hi : M[i]? = some (OwnSl e size oa n cap xs)) : Rd M F oa xs := fun w hw => by
  obtain ⟨K, ⟨K1, K2, _, h, _⟩, _⟩ := hw.front hi
  exact OwnSl.cells h
theorem Rd.mono {M' : List HP} {F' : List Fact} {oa : Option Addr} {xs : List Value} (h : Rd M F oa xs) (hs : ∀ w, St w M' F' → St w M F) : Rd M' F' oa xs := fun w hw => h w (hs w hw)
theorem src_rd {oa : Option Addr} {xs : List Value} {size m c : Nat} (h : Rd M F oa xs) (hs : xs.length = m * size) (h1 : xs.all Value.oneCell' = true) : ∀ w, St w M F → Src P w size m (.slice oa m c) xs := fun w hw => Src.slice (h w hw) hs h1
def tyByte (P : Program) (t : TypeId) : Bool := match P.underlying t with | some (.slice e) => tyInt P e .u8 | _ => false
theorem run_bytes_str {w : World} {s t : TypeId} {oa : Option Addr} {c : Nat} {l : List UInt8} (hs : tyByte P s = true) (ht : tyStr P t = true) (h : ArrAt w [] oa (bytesV l)) : (convert s t (.slice oa l.length c)).run P w = .ok (S l) w := by
  unfold tyByte at hs
  split at hs
  · rename_i e he
    have hb := tyInt_is hs
    cases oa with
    | none =>
      have hl : l = [] := by
        rcases h with h | ⟨b, off, e, _⟩
        · cases l with
          | nil => rfl
          | cons x l => simp [bytesV] at h
        · cases e
      subst hl
      exact run_convert_bytes_nil (P := P) w s e he hb 0 c t (tyStr_underlying ht)
    | some a =>
      rcases h with h | ⟨b, off, e2, hc⟩
      · have hl : l = [] := by
          cases l with
          | nil => rfl
          | cons x l => simp [bytesV] at h
        subst hl
        have := run_convert_bytes_string (P := P) w s t e (some a) 0 c he hb (tyStr_underlying ht)
        rw [show ([] : List UInt8).length = 0 from rfl, this]
        have h2 := run_bytesToString (P := P) w a 0 c [] (by have := run_loadCells_list (P := P) w a [] (by simp); simpa using this)
        rw [h2]
        rfl
      · cases e2
        have := run_convert_bytes_arg (P := P) w s e he hb b off l.length c (l.map fun u => (u.toNat : Int)) (by simp) (fun i hi => by
          have := hc.2.2 i (.int .u8 ((l[i]).toNat : Int)) (by simp [bytesV, hi])
          rw [this]
          simp [List.getD, hi]) t (tyStr_underlying ht)
        rw [this]
        congr 3
        simp only [strOfNums, List.map_map]
        congr 2
        conv => rhs; rw [← List.map_id l]
        exact List.map_congr_left fun u _ => by simp
  · cases hs
theorem PV.convBS {s t : TypeId} {x : Operand} {oa : Option Addr} {n c : Nat} {l : List UInt8} (hs : tyByte P s = true) (ht : tyStr P t = true) (hx : evalO E x = some (.slice oa n c)) (hn : n = l.length) (h : Rd M F oa (bytesV l)) : PV P E M F ⟨some d, .convert s t x, ty, pos, aft, gd⟩ (S l) := ⟨rfl, fun ρ hρ w hw => by
  subst hn
  have h1 := run_bytes_str (P := P) (s := s) (t := t) (c := c) hs ht (h w hw)
  simp [execOp, hρ _ _ hx, h1]⟩
theorem RL.convBS {s t : TypeId} {x : Operand} {oa : Option Addr} {n c : Nat} {l : List UInt8} (hg : wantedG ops E gd = some true) (hs : tyByte P s = true) (ht : tyStr P t = true) (hx : evalO E x = some (.slice oa n c)) (hn : n = l.length) (h : Rd M F oa (bytesV l)) (hN : Nat.ble (d + 1) N = true) (k : RL P r N ops rest Q ((d, S l) :: E) ds M F) : RL P r N ops (⟨some d, .convert s t x, ty, pos, aft, gd⟩ :: rest) Q E ds M F :=
  RL.val rfl hg hN (fun ρ hρ w hw => by
    subst hn
    have h1 := run_bytes_str (P := P) (s := s) (t := t) (c := c) hs ht (h w hw)
    simp [execOp, hρ _ _ hx, h1]) k
end
end Go.GL

namespace Go.GL
set_option linter.unusedVariables false
def encU (n : Nat) : List UInt8 := if n < 128 then [UInt8.ofNat n] else UInt8.ofNat (128 + n % 128) :: encU (n / 128)
termination_by n
decreasing_by omega
theorem encU_small {n : Nat} (h : n < 128) : encU n = [UInt8.ofNat n] := by rw [encU, if_pos h]
theorem encU_big {n : Nat} (h : ¬ n < 128) : encU n = UInt8.ofNat (128 + n % 128) :: encU (n / 128) := by rw [encU, if_neg h]
theorem encU_pos (n : Nat) : 0 < (encU n).length := by
  by_cases h : n < 128
  · rw [encU_small h]; simp
  · rw [encU_big h]; simp
theorem encU_len {k : Nat} : ∀ {n : Nat}, n < 128 ^ (k + 1) → (encU n).length ≤ k + 1 := by
  induction k with
  | zero => intro n h; rw [encU_small (by simpa using h)]; simp
  | succ k ih =>
    intro n h
    by_cases hs : n < 128
    · rw [encU_small hs]; simp
    · rw [encU_big hs, List.length_cons]
      have := ih (n := n / 128) (by rw [Nat.div_lt_iff_lt_mul (by omega)]; rw [Nat.pow_succ] at h; exact h)
      omega
theorem encU_len10 {n : Nat} (h : n < 18446744073709551616) : (encU n).length ≤ 10 := encU_len (k := 9) (by
  have : (128 : Nat) ^ (9 + 1) = 1180591620717411303424 := by decide
  omega)
theorem u8_ofNat {n : Nat} (h : n < 256) : (UInt8.ofNat n).toNat = n := by simp; omega
theorem or128 {c : Nat} (h : c < 256) : c ||| 128 = 128 + c % 128 := by
  have : ∀ c : Fin 256, c.1 ||| 128 = 128 + c.1 % 128 := by decide +kernel
  exact this ⟨c, h⟩
theorem more_byte {n : Nat} : B8 (n % 256 ||| 128) = .int .u8 ((UInt8.ofNat (128 + n % 128)).toNat : Int) := by
  rw [or128 (by omega), u8_ofNat (by omega)]
  congr 2; omega
theorem last_byte {n : Nat} (h : n < 128) : B8 (n % 256) = .int .u8 ((UInt8.ofNat n).toNat : Int) := by
  rw [u8_ofNat (by omega), Nat.mod_eq_of_lt (by omega)]
def zz (n : Int) : Nat := if n < 0 then (2 * (-(n + 1)) + 1).toNat else (2 * n).toNat
def uz (z : Nat) : Int := if z % 2 = 1 then -((z / 2 : Nat) : Int) - 1 else ((z / 2 : Nat) : Int)
theorem uz_zz (n : Int) : uz (zz n) = n := by
  unfold uz zz
  split
  · rw [if_pos (by omega)]; omega
  · rw [if_neg (by omega)]; omega
theorem zz_lt {n : Int} (h0 : -9223372036854775808 ≤ n) (h1 : n ≤ 9223372036854775807) : zz n < 18446744073709551616 := by
  unfold zz; split <;> omega
def decU : Nat → Nat → List UInt8 → Nat × List UInt8 × Int
  | _, _, [] => (0, [], 3)
  | i, n, c :: b => if (i = 9 ∧ 1 < c.toNat) ∨ (0 < i ∧ c.toNat = 0) then (0, b, 2) else if c.toNat < 128 then (n + c.toNat % 128 * 2 ^ (7 * i), b, 0) else decU (i + 1) (n + c.toNat % 128 * 2 ^ (7 * i)) b
theorem decU_enc (rest : List UInt8) : ∀ (m i n : Nat), (0 < i → 0 < m) → m * 2 ^ (7 * i) < 18446744073709551616 → decU i n (encU m ++ rest) = (n + m * 2 ^ (7 * i), rest, 0) := by
  intro m
  induction m using Nat.strongRecOn with
  | _ m ih =>
    intro i n hi hm
    have h9 : i = 9 → m ≤ 1 := by
      rintro rfl
      have e : (2 : Nat) ^ (7 * 9) = 9223372036854775808 := by decide
      rw [e] at hm
      omega
    by_cases hs : m < 128
    · rw [encU_small hs, List.singleton_append, decU, u8_ofNat (by omega), if_neg (by omega), if_pos hs, Nat.mod_eq_of_lt hs]
    · rw [encU_big hs, List.cons_append, decU, u8_ofNat (by omega), if_neg (by omega), if_neg (by omega)]
      have e : (128 + m % 128) % 128 = m % 128 := by omega
      have e2 : m / 128 * 2 ^ (7 * (i + 1)) + m % 128 * 2 ^ (7 * i) = m * 2 ^ (7 * i) := by
        rw [show 7 * (i + 1) = 7 * i + 7 from by omega, Nat.pow_add, show (2 : Nat) ^ 7 = 128 from rfl, Nat.mul_comm (2 ^ (7 * i)) 128, ← Nat.mul_assoc, ← Nat.add_mul]
        congr 1; omega
      rw [ih (m / 128) (by omega) (i + 1) _ (by omega) (by omega), e]
      congr 1
      omega
theorem decU_err {i n : Nat} {b : List UInt8} (h : (decU i n b).2.2 ≠ 0) : (decU i n b).1 = 0 := by
  induction b generalizing i n with
  | nil => rfl
  | cons c b ih =>
    rw [decU] at h ⊢
    split
    · rfl
    · rename_i h1
      rw [if_neg h1] at h
      split
      · rename_i h2; rw [if_pos h2] at h; exact absurd rfl h
      · rename_i h2; rw [if_neg h2] at h; exact ih h
theorem decU_suf {i n : Nat} {b : List UInt8} : ∃ p, b = p ++ (decU i n b).2.1 := by
  induction b generalizing i n with
  | nil => exact ⟨[], rfl⟩
  | cons c b ih =>
    rw [decU]
    split
    · exact ⟨[c], rfl⟩
    · split
      · exact ⟨[c], rfl⟩
      · obtain ⟨p, hp⟩ := ih (i := i + 1) (n := n + c.toNat % 128 * 2 ^ (7 * i))
        exact ⟨c :: p, by rw [List.cons_append, ← hp]⟩
theorem decU_lt : ∀ {i n : Nat} {b : List UInt8}, i ≤ 9 → n < 2 ^ (7 * i) → (decU i n b).1 < 18446744073709551616
  | i, n, [], _, _ => by rw [decU]; decide
  | i, n, c :: b, hi, hn => by
    rw [decU]
    have hc := c.toNat_lt
    have hm : c.toNat % 128 < 128 := Nat.mod_lt _ (by omega)
    have hstep : n + c.toNat % 128 * 2 ^ (7 * i) < 2 ^ (7 * (i + 1)) := by
      rw [show 7 * (i + 1) = 7 * i + 7 from by omega, Nat.pow_add, show (2 : Nat) ^ 7 = 128 from rfl]
      have : c.toNat % 128 * 2 ^ (7 * i) ≤ 127 * 2 ^ (7 * i) := Nat.mul_le_mul_right _ (by omega)
      omega
    by_cases h1 : (i = 9 ∧ 1 < c.toNat) ∨ (0 < i ∧ c.toNat = 0)
    · rw [if_pos h1]; exact (show (0 : Nat) < 18446744073709551616 by omega)
    · rw [if_neg h1]
      by_cases h2 : c.toNat < 128
      · rw [if_pos h2]
        show n + c.toNat % 128 * 2 ^ (7 * i) < _
        by_cases h9 : i = 9
        · subst h9
          have e : (2 : Nat) ^ (7 * 9) = 9223372036854775808 := by decide
          rw [e] at hn ⊢
          have : c.toNat % 128 ≤ 1 := by omega
          have : c.toNat % 128 * 9223372036854775808 ≤ 1 * 9223372036854775808 := Nat.mul_le_mul_right _ this
          omega
        · refine Nat.lt_of_lt_of_le hstep ?_
          have : (2 : Nat) ^ (7 * (i + 1)) ≤ 2 ^ 64 := Nat.pow_le_pow_right (by omega) (by omega)
          exact this
      · rw [if_neg h2]
        exact decU_lt (by omega) hstep
def rdU (l : List UInt8) (e : Int) : Nat × List UInt8 × Int := if e = 0 then decU 0 0 l else (0, l, e)
def rdRaw (l : List UInt8) (e : Int) : List UInt8 × List UInt8 × Int :=
  if (rdU l e).2.2 = 0 then (if (rdU l e).1 ≤ (rdU l e).2.1.length then ((rdU l e).2.1.take (rdU l e).1, (rdU l e).2.1.drop (rdU l e).1, 0) else ([], (rdU l e).2.1, 3)) else ([], (rdU l e).2.1, (rdU l e).2.2)
theorem rdU_enc {n : Nat} (h : n < 18446744073709551616) (rest : List UInt8) : rdU (encU n ++ rest) 0 = (n, rest, 0) := by
  unfold rdU
  rw [if_pos rfl, decU_enc rest n 0 0 (by omega) (by simpa using h)]
  simp
theorem rdU_lt {l : List UInt8} {e : Int} : (rdU l e).1 < 18446744073709551616 := by
  unfold rdU
  split
  · exact decU_lt (by omega) (by simp)
  · exact (show (0 : Nat) < 18446744073709551616 by omega)
theorem rdU_suf {l : List UInt8} {e : Int} : ∃ p, l = p ++ (rdU l e).2.1 := by
  unfold rdU
  split
  · exact decU_suf
  · exact ⟨[], rfl⟩
theorem rdU_err {l : List UInt8} {e : Int} (h : (rdU l e).2.2 ≠ 0) : (rdU l e).1 = 0 := by
  unfold rdU at h ⊢
  split
  · rename_i he; rw [if_pos he] at h; exact decU_err h
  · rfl
def encR (x : List UInt8) : List UInt8 := encU x.length ++ x
theorem rdRaw_enc {x : List UInt8} (h : x.length < 18446744073709551616) (rest : List UInt8) : rdRaw (encR x ++ rest) 0 = (x, rest, 0) := by
  unfold rdRaw encR
  rw [List.append_assoc, rdU_enc h]
  simp
def mixN (s w : Nat) : Nat := ((s ^^^ w) * 11400714819323198485 % 18446744073709551616) ^^^ ((s ^^^ w) * 11400714819323198485 % 18446744073709551616 / 4294967296)
theorem mixN_lt {s w : Nat} : mixN s w < 18446744073709551616 := by
  unfold mixN
  refine Nat.xor_lt_two_pow (n := 64) (Nat.mod_lt _ (by omega)) ?_
  exact Nat.lt_of_le_of_lt (Nat.div_le_self _ _) (Nat.mod_lt _ (by omega))
def wordN : List UInt8 → Nat
  | [] => 0
  | c :: b => c.toNat + 256 * wordN b
def wordsN (b : List UInt8) : List Nat := (List.range ((b.length + 7) / 8)).map fun k => wordN ((b.drop (8 * k)).take 8)
def i64of (n : Nat) : Int := IntKind.i64.wrap (n : Int)
def u64of (n : Int) : Nat := (n % 18446744073709551616).toNat
theorem u64of_lt (n : Int) : u64of n < 18446744073709551616 := by unfold u64of; omega
theorem i64of_range (n : Nat) : -9223372036854775808 ≤ i64of n ∧ i64of n ≤ 9223372036854775807 := by
  unfold i64of
  simp [IntKind.wrap, IntKind.bits, IntKind.signed]
  split <;> omega
theorem ConvV.iu64 {P : Program} {s t : TypeId} {n : Int} (hs : tyInt P s .i64 = true) (ht : tyInt P t .u64 = true) : ConvV P s t (I n) (U (u64of n)) := (ConvV.int hs ht).to (by
  show Value.int .u64 _ = Value.int .u64 ((u64of n : Nat) : Int)
  rw [wrap_u64i]; unfold u64of; congr 1; omega)
theorem ConvV.ui64 {P : Program} {s t : TypeId} {n : Nat} (hs : tyInt P s .u64 = true) (ht : tyInt P t .i64 = true) : ConvV P s t (U n) (I (i64of n)) := ConvV.int hs ht
def sumN (label : List UInt8) (l : List Int) : Nat :=
  mixN (l.foldl (fun s n => mixN s (u64of n)) (mixN (mixN ((wordsN label).foldl mixN 0) label.length) l.length)) 0
def hashN (label b : List UInt8) : Nat := sumN label ((wordsN b).map i64of ++ [(b.length : Int)])
theorem hashN_lt {label b : List UInt8} : hashN label b < 18446744073709551616 := mixN_lt
def jl : List UInt8 := [106, 111, 117, 114, 110, 97, 108]
def coreJ (i : Int) (x : List UInt8) : List UInt8 := encU (zz i) ++ encR x
def frameJ (i : Int) (x : List UInt8) : List UInt8 := encR (coreJ i x) ++ encU (hashN jl (coreJ i x))
def recOf (b : List UInt8) : List UInt8 :=
  let k := min b.length (10 + min (rdU (b.take 10) 0).1 b.length)
  let core := (rdRaw (b.take k) 0).1
  (rdRaw (rdU core 0).2.1 (rdU core 0).2.2).1
theorem coreJ_len {i : Int} {x : List UInt8} (h0 : -9223372036854775808 ≤ i) (h1 : i ≤ 9223372036854775807) (hx : x.length ≤ 4611686018427387904) : (coreJ i x).length ≤ x.length + 20 ∧ x.length < (coreJ i x).length := by
  have := encU_len10 (zz_lt h0 h1)
  have := encU_len10 (n := x.length) (by omega)
  have := encU_pos (zz i)
  unfold coreJ encR
  simp only [List.length_append]
  omega
theorem frameJ_len {i : Int} {x : List UInt8} (h0 : -9223372036854775808 ≤ i) (h1 : i ≤ 9223372036854775807) (hx : x.length ≤ 4611686018427387000) : (frameJ i x).length ≤ x.length + 40 ∧ x.length < (frameJ i x).length := by
  have := coreJ_len h0 h1 (x := x) (by omega)
  have := encU_len10 (n := (coreJ i x).length) (by omega)
  have := encU_len10 (hashN_lt (label := jl) (b := coreJ i x))
  unfold frameJ
  rw [List.length_append, encR, List.length_append]
  omega
def WrB (T e b : Nat) (l : List UInt8) : HP := Ex (ι := Option Addr × Nat) fun i => [Box b T [.slice i.1 l.length i.2], OwnSl e 1 i.1 l.length i.2 (bytesV l)]
theorem St.wrNew {w : World} {M : List HP} {F : List Fact} {T e b : Nat} (h : St w (Box b T [.slice none 0 0] :: M) F) : St w (WrB T e b [] :: M) F :=
  St.exClose (none, 0) ((OwnSl.nil_new e 1 h).swap)
theorem St.wrClose {w : World} {M : List HP} {F : List Fact} {T e b n : Nat} {oa : Option Addr} {c : Nat} {l : List UInt8} {xs : List Value} (hn : n = l.length) (hx : xs = bytesV l) (h : St w (Box b T [.slice oa n c] :: OwnSl e 1 oa n c xs :: M) F) : St w (WrB T e b l :: M) F := by
  subst hn hx
  exact St.exClose (oa, c) h
theorem bytesV_snoc (l : List UInt8) (c : UInt8) : bytesV (l ++ [c]) = bytesV l ++ [.int .u8 (c.toNat : Int)] := by simp [bytesV]
theorem zz_bits {n : Int} (h0 : -9223372036854775808 ≤ n) (h1 : n ≤ 9223372036854775807) : (u64of n * 2 ^ 1 % 18446744073709551616) ^^^ u64of (n.fdiv (2 ^ 63)) = zz n := by
  have e : (2 : Int) ^ 63 = 9223372036854775808 := by decide
  unfold zz
  by_cases h : n < 0
  · rw [if_pos h]
    have e2 : n.fdiv (2 ^ 63) = -1 := by rw [e, Int.fdiv_eq_ediv_of_nonneg _ (by omega)]; omega
    have e3 : u64of (-1) = 18446744073709551615 := by decide
    rw [e2, e3, xor_ones (Nat.mod_lt _ (by omega))]
    unfold u64of
    omega
  · rw [if_neg h]
    have e2 : n.fdiv (2 ^ 63) = 0 := by rw [e, Int.fdiv_eq_ediv_of_nonneg _ (by omega)]; omega
    have e3 : u64of 0 = 0 := by decide
    rw [e2, e3, Nat.xor_zero]
    unfold u64of
    omega
def VarB (T e size b n : Nat) (xs : List Value) : HP := Ex (ι := Option Addr × Nat) fun i => [Box b T [.slice i.1 n i.2], OwnSl e size i.1 n i.2 xs]
theorem St.varNew {w : World} {M : List HP} {F : List Fact} {T e size b : Nat} (h : St w (Box b T [.slice none 0 0] :: M) F) : St w (VarB T e size b 0 [] :: M) F :=
  St.exClose (none, 0) ((OwnSl.nil_new e size h).swap)
theorem bytesV_get {b : List UInt8} {i : Nat} (h : i < b.length) : (bytesV b)[((i : Nat) : Int).toNat * 1]? = some (.int .u8 (b[i].toNat : Int)) := by
  rw [Int.toNat_natCast, Nat.mul_one, bytesV, List.getElem?_map, List.getElem?_eq_getElem h]; rfl
theorem bytesV_ne {b : List UInt8} {i : Nat} (h : i < b.length) : bytesV b ≠ [] := by
  intro e; have h9 := bytesV_length b; rw [e] at h9; simp at h9; omega
structure RdX where
  oa : Option Addr
  c : Nat
theorem xor_neg1 {x : Int} (h0 : 0 ≤ x) (h1 : x ≤ 9223372036854775807) : bits .xor .i64 x (-1) = -x - 1 := by
  obtain ⟨n, rfl⟩ := Int.eq_ofNat_of_zero_le h0
  have e1 : BitVec.ofInt 64 (n : Int) = BitVec.ofNat 64 n := by simp
  have e2 : BitVec.ofInt 64 (-1) = BitVec.allOnes 64 := by decide
  have e3 : (BitVec.ofNat 64 n ^^^ BitVec.allOnes 64).toNat = 18446744073709551615 - n := by
    rw [BitVec.xor_allOnes, BitVec.toNat_not, BitVec.toNat_ofNat, Nat.mod_eq_of_lt (by omega)]
  show IntKind.i64.wrap ((BitVec.ofInt 64 (n : Int) ^^^ BitVec.ofInt 64 (-1)).toNat : Int) = _
  rw [e1, e2, e3]
  simp [IntKind.wrap, IntKind.bits, IntKind.signed]
  omega
theorem xor_zero {x : Int} (h0 : 0 ≤ x) (h1 : x ≤ 9223372036854775807) : bits .xor .i64 x 0 = x := by
  obtain ⟨n, rfl⟩ := Int.eq_ofNat_of_zero_le h0
  have e1 : BitVec.ofInt 64 (n : Int) = BitVec.ofNat 64 n := by simp
  have e2 : BitVec.ofInt 64 0 = 0#64 := by decide
  show IntKind.i64.wrap ((BitVec.ofInt 64 (n : Int) ^^^ BitVec.ofInt 64 0).toNat : Int) = _
  rw [e1, e2, BitVec.xor_zero, BitVec.toNat_ofNat, Nat.mod_eq_of_lt (by omega), wrap64_id (by omega) h1]
theorem i64of_small {n : Nat} (h : n < 9223372036854775808) : i64of n = (n : Int) := wrap64_id (by omega) (by omega)
theorem uz_bits {z : Nat} (h : z < 18446744073709551616) : bits .xor .i64 (i64of (z / 2 ^ 1)) (-(i64of (z &&& 1))) = uz z := by
  rw [show (2 : Nat) ^ 1 = 2 from rfl, nat_mask1, i64of_small (by omega), i64of_small (by omega)]
  unfold uz
  by_cases h1 : z % 2 = 1
  · rw [if_pos h1, h1]; exact xor_neg1 (by omega) (by omega)
  · rw [if_neg h1, show z % 2 = 0 from by omega]; exact xor_zero (by omega) (by omega)
theorem or_add {n m i : Nat} (h : n < 2 ^ (7 * i)) (hm : m * 2 ^ (7 * i) < 18446744073709551616) : n ||| (m * 2 ^ (7 * i) % 18446744073709551616) = n + m * 2 ^ (7 * i) := by
  rw [Nat.mod_eq_of_lt hm, Nat.or_comm]
  have := Nat.two_pow_add_eq_or_of_lt h m
  rw [Nat.mul_comm] at this
  rw [← this, Nat.add_comm]
def badU (i : Nat) (c : UInt8) : Prop := (i = 9 ∧ 1 < c.toNat) ∨ (0 < i ∧ c.toNat = 0)
theorem decU_bad {i n : Nat} {c : UInt8} {b : List UInt8} (h : badU i c) : decU i n (c :: b) = (0, b, 2) := by rw [decU]; exact if_pos h
theorem decU_last {i n : Nat} {c : UInt8} {b : List UInt8} (h : ¬ badU i c) (hc : c.toNat < 128) : decU i n (c :: b) = (n + c.toNat % 128 * 2 ^ (7 * i), b, 0) := by rw [decU]; exact (if_neg h).trans (if_pos hc)
theorem decU_more {i n : Nat} {c : UInt8} {b : List UInt8} (h : ¬ badU i c) (hc : ¬ c.toNat < 128) : decU i n (c :: b) = decU (i + 1) (n + c.toNat % 128 * 2 ^ (7 * i)) b := by rw [decU]; exact (if_neg h).trans (if_neg hc)
theorem byte_fits {i n : Nat} {c : UInt8} (h : ¬ badU i c) (hi : i ≤ 9) (hn : n < 2 ^ (7 * i)) : n + c.toNat % 128 * 2 ^ (7 * i) < 18446744073709551616 ∧ (i ≤ 8 → n + c.toNat % 128 * 2 ^ (7 * i) < 2 ^ (7 * (i + 1))) := by
  unfold badU at h
  have hm : c.toNat % 128 < 128 := Nat.mod_lt _ (by omega)
  have hstep : n + c.toNat % 128 * 2 ^ (7 * i) < 2 ^ (7 * (i + 1)) := by
    rw [show 7 * (i + 1) = 7 * i + 7 from by omega, Nat.pow_add, show (2 : Nat) ^ 7 = 128 from rfl]
    have : c.toNat % 128 * 2 ^ (7 * i) ≤ 127 * 2 ^ (7 * i) := Nat.mul_le_mul_right _ (by omega)
    omega
  refine ⟨?_, fun _ => hstep⟩
  by_cases h9 : i = 9
  · subst h9
    have e : (2 : Nat) ^ (7 * 9) = 9223372036854775808 := by decide
    rw [e] at hn ⊢
    have : c.toNat % 128 * 9223372036854775808 ≤ 1 * 9223372036854775808 := Nat.mul_le_mul_right _ (by omega)
    omega
  · refine Nat.lt_of_lt_of_le hstep ?_
    have : (2 : Nat) ^ (7 * (i + 1)) ≤ 2 ^ 64 := Nat.pow_le_pow_right (by omega) (by omega)
    exact this
theorem rdRaw_err {l : List UInt8} {e : Int} (h : (rdU l e).2.2 ≠ 0) : rdRaw l e = ([], (rdU l e).2.1, (rdU l e).2.2) := by unfold rdRaw; rw [if_neg h]
theorem rdRaw_far {l : List UInt8} {e : Int} (h : (rdU l e).2.2 = 0) (hn : (rdU l e).2.1.length < (rdU l e).1) : rdRaw l e = ([], (rdU l e).2.1, 3) := by unfold rdRaw; rw [if_pos h, if_neg (by omega)]
theorem rdRaw_ok {l : List UInt8} {e : Int} (h : (rdU l e).2.2 = 0) (hn : (rdU l e).1 ≤ (rdU l e).2.1.length) : rdRaw l e = ((rdU l e).2.1.take (rdU l e).1, (rdU l e).2.1.drop (rdU l e).1, 0) := by unfold rdRaw; rw [if_pos h, if_pos hn]
theorem St.cutB {w : World} {M : List HP} {F : List Fact} {oa : Option Addr} {cap : Nat} {l : List UInt8} (k : Nat) (hk : k ≤ l.length) (hc : l.length ≤ cap) (hF : ArrF oa (bytesV l) ∈ F) (h : St w M F) : St w M (ArrF (cutA oa k cap 1) (bytesV (l.drop k)) :: F) :=
  h.derive fun K hf => by
    have h9 := ArrAt.cut (size := 1) (cap := cap) (n := l.length) (hf _ hF) k l.length (by rw [bytesV_length, Nat.mul_one]) (Nat.le_refl _) hc
    rw [Nat.mul_one, Nat.mul_one, List.take_of_length_le (by rw [bytesV_length]; omega)] at h9
    show ArrAt _ _ _ _
    rw [show bytesV (l.drop k) = (bytesV l).drop k from by simp [bytesV]]
    exact h9
theorem St.cutT {w : World} {M : List HP} {F : List Fact} {oa : Option Addr} {cap : Nat} {l : List UInt8} (k : Nat) (hc : l.length ≤ cap) (hF : ArrF oa (bytesV l) ∈ F) (h : St w M F) : St w M (ArrF (cutA oa 0 cap 1) (bytesV (l.take k)) :: F) :=
  h.derive fun K hf => by
    have h9 := ArrAt.cut (size := 1) (cap := cap) (n := l.length) (hf _ hF) 0 (min k l.length) (by rw [bytesV_length, Nat.mul_one]) (Nat.min_le_right _ _) hc
    simp only [Nat.mul_one, List.drop_zero] at h9
    show ArrAt _ _ _ _
    have e : bytesV (l.take k) = (bytesV l).take (min k l.length) := by
      rw [show bytesV (l.take k) = (bytesV l).take k from by simp [bytesV]]
      rcases Nat.le_total k l.length with h1 | h1
      · rw [Nat.min_eq_left h1]
      · rw [Nat.min_eq_right h1, List.take_of_length_le (by rw [bytesV_length]; omega), List.take_of_length_le (by rw [bytesV_length]; omega)]
    rw [e]
    exact h9
end Go.GL

namespace Go.Proofs.YtdnjoffkanjjhaaGreatDoor
open Go.GL
set_option linter.unusedVariables false
theorem wa_bs32_0_  : BuildSV Tryz.prog 32 5 0 [] [] := fun w => by kernel_rfl
theorem wa_bs32_1_0 (x0 : Int) : BuildSV Tryz.prog 32 5 1 [(0, .int .u8 x0)] [.int .u8 x0] := fun w => by kernel_rfl
theorem wa_ni32 : noInt Tryz.prog 32 = true := by kernel_rfl
theorem wa_ni9 : noInt Tryz.prog 9 = true := by kernel_rfl
theorem wa_te5 : tyElem Tryz.prog 5 1 1 = true := by kernel_rfl
theorem wa_tf34_0 : fieldOff Tryz.prog 34 0 0 = true := by kernel_rfl
theorem wa_ti3 : tyInt Tryz.prog 3 .i64 = true := by kernel_rfl
theorem wa_ti5 : tyInt Tryz.prog 5 .u8 = true := by kernel_rfl
theorem wa_ti64 : tyInt Tryz.prog 64 .u64 = true := by kernel_rfl
theorem wa_tl32 : tySlice Tryz.prog 32 5 = true := by kernel_rfl
theorem wa_ts32 : tyScalar Tryz.prog 32 = true := by kernel_rfl
theorem wa_tstr9 : tyStr Tryz.prog 9 = true := by kernel_rfl
theorem mixed : Tryz.prog.follows .mixedOrders = true := by kernel_rfl
theorem cloneB_spec {l : List UInt8} {oa : Option Addr} {c : Nat} {M : List HP} {F : List Fact} (hR : Rd M F oa (bytesV l)) (hl : l.length ≤ 70368744177664) : Ctr Tryz.prog 29 [.slice oa l.length c] M F (Option Addr × Nat) (fun z => .slice z.1 l.length z.2) (fun z => OwnSl 5 1 z.1 l.length z.2 (bytesV l) :: M) (fun _ => F) := by
  refine Ctr.body Tryz.func29 rfl rfl ?_
  refine TR.seq ?_
  refine TR.region ?_
  refine RL.assign rfl rfl rfl ?_
  refine RL.nil ?_
  refine NX.seq ?_
  refine TR.seq ?_
  refine TR.seq ?_
  refine TR.region ?_
  refine RL.move rfl rfl rfl ?_
  refine RL.bin rfl rfl rfl (BinV.eqlNil wa_tl32) rfl ?_
  refine RL.nil ?_
  refine NX.seq ?_
  refine TR.cond rfl (fun h1 => ?_) (fun h1 => ?_)
  · skip
    have h1_ := h1
    refine TR.seq ?_
    refine TR.region ?_
    refine RL.assign rfl rfl rfl ?_
    refine RL.nil ?_
    refine NX.seq ?_
    refine TR.ret ?_
    refine NX.retThen ?_
    refine NX.ret1x rfl rfl (fun w hw => ?_)
    have ho : oa = none := by cases oa with | none => rfl | some a => cases h1_
    subst ho
    have hc : bytesV l = [] := by
      rcases hR w hw with h | ⟨b, off, e, _⟩
      · exact h
      · cases e
    have hl0 : l = [] := by cases l with | nil => rfl | cons x l => simp [bytesV] at hc
    subst hl0
    exact ⟨(none, 0), rfl, OwnSl.nil_new 5 1 hw⟩
  · skip
    refine TR.skip ?_
    refine NX.seq ?_
    refine TR.seq ?_
    refine TR.region ?_
    refine RL.buildSlice rfl rfl (wa_bs32_0_) rfl (fun b2 => ?_)
    refine RL.move rfl rfl rfl ?_
    refine RL.weak (fun w hw => St.boxSl (n := 0) (size := 1) rfl (by decide) hw) ?_
    refine RL.ofGV rfl rfl (GV.append (j := 0) wa_tl32 wa_ni32 wa_te5 rfl rfl rfl (src_rd (hR.mono (fun w hw => hw.tail)) (by rw [bytesV_length, Nat.mul_one]) (bytesV_one l)) (by omega) (by omega)) (fun z => ?_)
    refine RL.assign rfl rfl rfl ?_
    refine RL.nil ?_
    refine NX.seq ?_
    refine TR.ret ?_
    refine NX.ret1x rfl rfl (fun w hw => ⟨(z.1, z.2), ?_, ?_⟩)
    · rw [Nat.zero_add]
    · have h9 : St w (OwnSl 5 1 z.1 (0 + l.length) z.2 ([] ++ bytesV l) :: M) F := hw
      rw [Nat.zero_add] at h9
      exact h9
theorem zigzag_spec {n : Int} {M : List HP} {F : List Fact} (h0 : -9223372036854775808 ≤ n) (h1 : n ≤ 9223372036854775807) : Ctr Tryz.prog 28 [I n] M F Unit (fun _ => U (zz n)) (fun _ => M) (fun _ => F) := by
  refine Ctr.body Tryz.func28 rfl rfl ?_
  refine TR.seq ?_
  refine TR.region ?_
  refine RL.assign rfl rfl rfl ?_
  refine RL.nil ?_
  refine NX.seq ?_
  refine TR.seq ?_
  refine TR.region ?_
  refine RL.move rfl rfl rfl ?_
  refine RL.conv rfl rfl (ConvV.iu64 wa_ti3 wa_ti64) rfl ?_
  refine RL.bin rfl rfl rfl (BinV.shlU (s := 1) (by omega)) rfl ?_
  refine RL.move rfl rfl rfl ?_
  refine RL.bin rfl rfl rfl (BinV.shr (k := .i64) (s := 63) (by decide)) rfl ?_
  refine RL.conv rfl rfl (ConvV.iu64 wa_ti3 wa_ti64) rfl ?_
  refine RL.bin rfl rfl rfl (BinV.xorU (Nat.mod_lt _ (by omega)) (u64of_lt _)) rfl ?_
  refine RL.assign rfl rfl rfl ?_
  refine RL.nil ?_
  refine NX.seq ?_
  refine TR.ret ?_
  exact NX.ret1 () rfl rfl (by rw [← zz_bits h0 h1]) (fun w hw => hw)
structure WuX where
  n : Nat
  l : List UInt8
  oa : Option Addr
  oc : Nat
theorem wUint_spec {n b : Nat} {l : List UInt8} {M : List HP} {F : List Fact} (hn : n < 18446744073709551616) (hl : l.length ≤ 70368744177664) : Ctr Tryz.prog 27 [.pointer (some ⟨b, 0, none⟩), U n] (WrB 34 5 b l :: M) F Unit (fun _ => .tuple #[]) (fun _ => WrB 34 5 b (l ++ encU n) :: M) (fun _ => F) := by
  refine Ctr.body Tryz.func27 rfl rfl ?_
  refine TR.seq ?_
  refine TR.block ?_
  refine TR.open (fun w hw => St.exOpen hw) (fun i => ?_)
  refine TR.loopP (ι := WuX) (fun x => x.n < 18446744073709551616 ∧ x.l ++ encU x.n = l ++ encU n ∧ True) (fun x => [(0, .pointer (some ⟨b, 0, none⟩)), (1, U x.n)]) (fun x => Box b 34 [.slice x.oa x.l.length x.oc] :: OwnSl 5 1 x.oa x.l.length x.oc (bytesV x.l) :: M) (fun _ => F) (fun x => x.n) ⟨n, l, i.1, i.2⟩ ⟨hn, rfl, trivial⟩ ⟨rfl, rfl, trivial⟩ (fun w hw => hw) (fun x hx => ?_)
  refine TR.seq ?_
  refine TR.seq ?_
  refine TR.region ?_
  refine RL.move rfl rfl rfl ?_
  refine RL.bin rfl rfl rfl BinV.geq rfl ?_
  refine RL.nil ?_
  refine NX.seq ?_
  refine TR.cond rfl (fun h1 => ?_) (fun h1 => ?_)
  · skip
    have hn1 : ¬ x.n < 128 := by have := of_decide_eq_true h1; omega
    have hx2 := hx.2.1
    rw [encU_big hn1] at hx2
    have hlen := congrArg List.length hx.2.1
    simp only [List.length_append] at hlen
    have h10 := encU_len10 hn
    refine TR.skip ?_
    refine NX.seq ?_
    refine TR.seq ?_
    refine TR.block ?_
    refine TR.region ?_
    refine RL.move rfl rfl rfl ?_
    refine RL.move rfl rfl rfl ?_
    refine RL.nilCheck rfl rfl rfl ?_
    refine RL.fieldAddr rfl wa_tf34_0 rfl rfl ?_
    refine RL.load1 0 rfl wa_ts32 rfl rfl rfl rfl ?_
    refine RL.move rfl rfl rfl ?_
    refine RL.conv rfl rfl (ConvV.ub wa_ti64 wa_ti5) rfl ?_
    refine RL.bin rfl rfl rfl (BinV.orB (b := 128) (Nat.mod_lt _ (by omega)) (by omega)) rfl ?_
    refine RL.buildSlice rfl rfl (wa_bs32_1_0 _) rfl (fun b2 => ?_)
    refine RL.ofGV rfl rfl (GV.append (j := 2) wa_tl32 wa_ni32 wa_te5 rfl rfl rfl (src_box (i := 0) rfl rfl rfl) (by omega) (by omega)) (fun y => ?_)
    refine RL.nilCheck rfl rfl rfl ?_
    refine RL.fieldAddr rfl wa_tf34_0 rfl rfl ?_
    refine RL.store1 1 rfl wa_ts32 rfl rfl rfl rfl rfl ?_
    refine RL.nil ?_
    refine NX.off ?_
    refine NX.seq ?_
    refine TR.region ?_
    refine RL.move rfl rfl rfl ?_
    refine RL.bin rfl rfl rfl (BinV.shrU (s := 7) (by omega)) rfl ?_
    refine RL.assign rfl rfl rfl ?_
    refine RL.nil ?_
    refine NX.roundP ⟨x.n / 2 ^ 7, x.l ++ [UInt8.ofNat (128 + x.n % 128)], y.1, y.2⟩ ⟨Nat.lt_of_le_of_lt (Nat.div_le_self _ _) hx.1, ?_, trivial⟩ (by show x.n / 2 ^ 7 < x.n; omega) ⟨rfl, rfl, trivial⟩ (fun w hw => ?_)
    · rw [← hx2, List.append_assoc]; rfl
    · have h9 : St w (Box b 34 [.slice y.1 (x.l.length + 1) y.2] :: OwnSl 5 1 y.1 (x.l.length + 1) y.2 (bytesV x.l ++ [B8 (x.n % 256 ||| 128)]) :: M) F := hw.drop 0 rfl
      rw [more_byte, ← bytesV_snoc] at h9
      show St w (Box b 34 [.slice y.1 (x.l ++ [UInt8.ofNat (128 + x.n % 128)]).length y.2] :: OwnSl 5 1 y.1 (x.l ++ [UInt8.ofNat (128 + x.n % 128)]).length y.2 _ :: M) F
      rw [List.length_append]
      exact h9
  · skip
    have hn1 : x.n < 128 := by have := of_decide_eq_false h1; omega
    have hx2 := hx.2.1
    rw [encU_small hn1] at hx2
    have hlen := congrArg List.length hx.2.1
    simp only [List.length_append] at hlen
    have h10 := encU_len10 hn
    refine TR.exit ?_
    refine NX.exitThen ?_
    refine NX.exitThen ?_
    refine NX.exitHere ?_
    refine NX.seq ?_
    refine TR.region ?_
    refine RL.move rfl rfl rfl ?_
    refine RL.move rfl rfl rfl ?_
    refine RL.nilCheck rfl rfl rfl ?_
    refine RL.fieldAddr rfl wa_tf34_0 rfl rfl ?_
    refine RL.load1 0 rfl wa_ts32 rfl rfl rfl rfl ?_
    refine RL.move rfl rfl rfl ?_
    refine RL.conv rfl rfl (ConvV.ub wa_ti64 wa_ti5) rfl ?_
    refine RL.buildSlice rfl rfl (wa_bs32_1_0 _) rfl (fun b4 => ?_)
    refine RL.ofGV rfl rfl (GV.append (j := 2) wa_tl32 wa_ni32 wa_te5 rfl rfl rfl (src_box (i := 0) rfl rfl rfl) (by omega) (by omega)) (fun y => ?_)
    refine RL.nilCheck rfl rfl rfl ?_
    refine RL.fieldAddr rfl wa_tf34_0 rfl rfl ?_
    refine RL.store1 1 rfl wa_ts32 rfl rfl rfl rfl rfl ?_
    refine RL.nil ?_
    refine NX.end0 () rfl rfl (fun w hw => ?_)
    have h9 : St w (Box b 34 [.slice y.1 (x.l.length + 1) y.2] :: OwnSl 5 1 y.1 (x.l.length + 1) y.2 (bytesV x.l ++ [B8 (x.n % 256)]) :: M) F := hw.drop 0 rfl
    rw [last_byte hn1, ← bytesV_snoc, hx2] at h9
    refine St.wrClose ?_ rfl h9
    rw [← hx2, List.length_append]; rfl
theorem wInt_spec {n : Int} {b : Nat} {l : List UInt8} {M : List HP} {F : List Fact} (h0 : -9223372036854775808 ≤ n) (h1 : n ≤ 9223372036854775807) (hl : l.length ≤ 70368744177664) : Ctr Tryz.prog 9 [.pointer (some ⟨b, 0, none⟩), I n] (WrB 34 5 b l :: M) F Unit (fun _ => .tuple #[]) (fun _ => WrB 34 5 b (l ++ encU (zz n)) :: M) (fun _ => F) := by
  refine Ctr.body Tryz.func9 rfl rfl ?_
  refine TR.region ?_
  refine RL.move rfl rfl rfl ?_
  refine RL.move rfl rfl rfl ?_
  refine RL.call rfl rfl Tryz.call28 rfl (zigzag_spec h0 h1) (fun _ => ?_)
  refine RL.call rfl rfl Tryz.call27 rfl (wUint_spec (zz_lt h0 h1) hl) (fun _ => ?_)
  refine RL.nil ?_
  exact NX.end0 () rfl rfl (fun w hw => hw)
theorem wText_spec {b : Nat} {l x : List UInt8} {M : List HP} {F : List Fact} (hl : l.length ≤ 35184372088832) (hx : x.length ≤ 35184372088832) : Ctr Tryz.prog 8 [.pointer (some ⟨b, 0, none⟩), S x] (WrB 34 5 b l :: M) F Unit (fun _ => .tuple #[]) (fun _ => WrB 34 5 b (l ++ encR x) :: M) (fun _ => F) := by
  refine Ctr.body Tryz.func8 rfl rfl ?_
  refine TR.seq ?_
  refine TR.region ?_
  have h10 := encU_len10 (n := x.length) (by omega)
  refine RL.move rfl rfl rfl ?_
  refine RL.move rfl rfl rfl ?_
  refine RL.lenStr rfl wa_tstr9 rfl rfl ?_
  refine RL.conv rfl rfl (ConvV.iu wa_ti3 wa_ti64 (by omega)) rfl ?_
  refine RL.call rfl rfl Tryz.call27 rfl (wUint_spec (by omega) (by omega)) (fun _ => ?_)
  refine RL.nil ?_
  refine NX.seq ?_
  refine TR.region ?_
  refine RL.open (fun w hw => St.exOpen hw) (fun i => ?_)
  refine RL.move rfl rfl rfl ?_
  refine RL.move rfl rfl rfl ?_
  refine RL.nilCheck rfl rfl rfl ?_
  refine RL.fieldAddr rfl wa_tf34_0 rfl rfl ?_
  refine RL.load1 0 rfl wa_ts32 rfl rfl rfl rfl ?_
  refine RL.move rfl rfl rfl ?_
  refine RL.ofGV rfl rfl (GV.append (j := 1) wa_tl32 wa_ni9 wa_te5 rfl rfl rfl (src_str x) (by rw [List.length_append]; omega) (by rw [List.length_append]; omega)) (fun y => ?_)
  refine RL.nilCheck rfl rfl rfl ?_
  refine RL.fieldAddr rfl wa_tf34_0 rfl rfl ?_
  refine RL.store1 0 rfl wa_ts32 rfl rfl rfl rfl rfl ?_
  refine RL.nil ?_
  refine NX.end0 () rfl rfl (fun w hw => St.wrClose ?_ ?_ hw)
  · unfold encR; simp only [List.length_append]; omega
  · unfold encR; rw [← List.append_assoc]; simp only [bytesV, List.map_append]
theorem wDone_spec {b : Nat} {l : List UInt8} {M : List HP} {F : List Fact} (hl : l.length ≤ 70368744177664) : Ctr Tryz.prog 10 [.pointer (some ⟨b, 0, none⟩)] (WrB 34 5 b l :: M) F (Option Addr × Nat) (fun z => .slice z.1 l.length z.2) (fun z => OwnSl 5 1 z.1 l.length z.2 (bytesV l) :: WrB 34 5 b l :: M) (fun z => F) := by
  refine Ctr.body Tryz.func10 rfl rfl ?_
  refine TR.seq ?_
  refine TR.region ?_
  refine RL.assign rfl rfl rfl ?_
  refine RL.nil ?_
  refine NX.seq ?_
  refine TR.seq ?_
  refine TR.region ?_
  refine RL.open (fun w hw => St.exOpen hw) (fun i => ?_)
  refine RL.move rfl rfl rfl ?_
  refine RL.nilCheck rfl rfl rfl ?_
  refine RL.fieldAddr rfl wa_tf34_0 rfl rfl ?_
  refine RL.load1 0 rfl wa_ts32 rfl rfl rfl rfl ?_
  refine RL.call rfl rfl Tryz.call29 rfl (cloneB_spec (rd_own (i := 1) rfl) hl) (fun z => ?_)
  refine RL.assign rfl rfl rfl ?_
  refine RL.nil ?_
  refine NX.seq ?_
  refine TR.ret ?_
  refine NX.ret1x rfl rfl (fun w hw => ⟨z, rfl, ?_⟩)
  exact (St.wrClose rfl rfl (hw.perm (List.perm_middle (l₁ := [_, _])).symm)).swap
end Go.Proofs.YtdnjoffkanjjhaaGreatDoor

namespace Go.Proofs.YtdnjoffkanjjhaaGreatDoor
open Go.GL
set_option linter.unusedVariables false
end Go.Proofs.YtdnjoffkanjjhaaGreatDoor
