/- Slices of the call's own, written and read in place; trees of the call's own. No condition; over every program. -/
import Derived.Test.YtdlpaojkkekdlaaSml
namespace Go.GL
open Tree
/-! ### Slices of one's own -/
theorem take_splice {α : Type} (cur vs : List α) {off m : Nat} (h : off + vs.length ≤ m) (hm : m ≤ cur.length) : (cur.take off ++ vs ++ cur.drop (off + vs.length)).take m = (cur.take m).take off ++ vs ++ (cur.take m).drop (off + vs.length) := by
  have hl : (cur.take off ++ vs).length = off + vs.length := by rw [List.length_append, List.length_take]; omega
  rw [List.take_append, hl, List.take_of_length_le (by omega), List.take_take, Nat.min_eq_left (by omega), List.drop_take]
theorem own_store {P : Program} {w : World} {M : List HP} {F : List Fact} {i e size n cap b off t : Nat} {oa : Option Addr} {xs vs : List Value} {v : Value} (hw : St w M F) (hi : M[i]? = some (OwnSl e size oa n cap xs)) (hoa : oa = some ⟨b, 0, none⟩) (ht : tySize P t vs.length = true) (hv : v.cells = vs.toArray)
    (ho : off + vs.length ≤ xs.length) (h1 : vs.all Value.oneCell' = true) : ∃ w', (storeVar t ⟨b, off, none⟩ v).run P w = .ok () w' ∧ St w' (M.set i (OwnSl e size oa n cap (xs.take off ++ vs ++ xs.drop (off + vs.length)))) F := by
  obtain ⟨K, ⟨K1, K2, _, hown, _⟩, _⟩ := hw.front hi
  have hxl := hown.1.1
  rcases hown.1.2 with ⟨hn, _⟩ | ⟨g, c, cur, hs, _, hg, hnc, hcm, hcs, htk⟩
  · simp only [Value.slice.injEq, hoa] at hn; exact absurd hn.1 (by simp)
  · have hs0 := hs
    simp only [Value.slice.injEq, hoa] at hs
    obtain ⟨hgb, _, rfl⟩ := hs
    have hgb' : b = g := by simpa using hgb
    subst hgb'
    have hxc : xs.length ≤ cur.toList.length := by rw [← htk, List.length_take]; omega
    have hst := run_storeCells_at P b off e vs 0 cur w hg (by simp at hxc ⊢; omega) (fun u hu => List.all_eq_true.1 h1 u hu)
    simp only [Nat.add_zero] at hst
    refine ⟨w.setRow b (cur.toList.take off ++ vs ++ cur.toList.drop (off + vs.length)).toArray, ?_, ?_⟩
    · simp [storeVar, run_sizeOf' ht, hv, hst]
    · refine St.back hi ((hw.front hi).turn rfl rfl rfl (by simp) fun K hK => ⟨K, ⟨⟨?_, .inr ⟨b, cap, _, hs0, Nat.zero_le _, setRow_heap w b cur _ e _ hg, hnc, hcm, ?_, ?_⟩⟩, hK.2⟩, ?_, fun c hc => .inl hc, fun c _ hn => setRow_other w b c _ (fun ee => hn (by rw [hK.2, hoa]; simp [ee]))⟩)
      · rw [← hxl]; simp only [List.length_append, List.length_take, List.length_drop]; omega
      · simp only [List.size_toArray, List.length_append, List.length_take, List.length_drop, Array.length_toList] at hxc ⊢; omega
      · rw [take_splice _ _ (by omega) (by omega), htk]
      · rw [hK.2]; cases oa <;> simp
theorem own_at {w : World} {M : List HP} {F : List Fact} {i e size n cap : Nat} {oa : Option Addr} {xs : List Value} (hi : M[i]? = some (OwnSl e size oa n cap xs)) (h0 : xs ≠ []) (hw : St w M F) : ∃ b, oa = some ⟨b, 0, none⟩ ∧ St w M F := by
  obtain ⟨K, ⟨K1, K2, _, hown, _⟩, _⟩ := hw.front hi
  rcases hown.1.2 with ⟨hn, h00⟩ | ⟨g, c, cur, hs, _⟩
  · subst h00
    exact absurd (List.eq_nil_of_length_eq_zero (by simpa using hown.1.1)) h0
  · simp only [Value.slice.injEq] at hs; exact ⟨g, hs.1, hw⟩
theorem own_cell {w : World} {M : List HP} {F : List Fact} {i e size n cap b j : Nat} {oa : Option Addr} {xs : List Value} {v : Value} (hw : St w M F) (hi : M[i]? = some (OwnSl e size oa n cap xs)) (hoa : oa = some ⟨b, 0, none⟩) (hj : xs[j]? = some v) : w.cell? ⟨b, j, none⟩ = some v := by
  obtain ⟨K, ⟨K1, K2, _, hown, _⟩, _⟩ := hw.front hi
  rcases OwnSl.cells hown with h | ⟨b', off, h1, h2⟩
  · rw [h] at hj; simp at hj
  · have hz : off = 0 := by
      rcases hown.1.2 with ⟨hn, _⟩ | ⟨g, c, cur, hs, _⟩
      · simp only [Value.slice.injEq] at hn; rw [hn.1] at h1; cases h1
      · simp only [Value.slice.injEq] at hs; rw [hs.1] at h1; simp only [Option.some.injEq, Addr.mk.injEq] at h1; exact h1.2.1.symm
    subst hz
    rw [hoa] at h1
    simp only [Option.some.injEq, Addr.mk.injEq] at h1
    rw [h1.1]
    have := h2.2.2 j v hj
    rwa [Nat.zero_add] at this
theorem own_agg {P : Program} {M : List HP} {F : List Fact} {i e size n cap b off t : Nat} {oa : Option Addr} {xs vs : List Value} (hi : M[i]? = some (OwnSl e size oa n cap xs)) (hoa : oa = some ⟨b, 0, none⟩) (hT : tyAgg P t vs.length = true) (hx : ∀ j v, vs[j]? = some v → xs[off + j]? = some v) :
    ∀ w, St w M F → Reads P w t ⟨b, off, none⟩ (.agg vs.toArray) := fun _ hw => run_loadVar_agg hT rfl fun j v hv => by rw [addr_add]; exact own_cell hw hi hoa (hx j v hv)
theorem own_one {P : Program} {M : List HP} {F : List Fact} {i e size n cap b off t : Nat} {oa : Option Addr} {xs : List Value} {v : Value} (hi : M[i]? = some (OwnSl e size oa n cap xs)) (hoa : oa = some ⟨b, 0, none⟩) (hT : tyScalar P t = true) (hx : xs[off]? = some v) :
    ∀ w, St w M F → Reads P w t ⟨b, off, none⟩ v := fun _ hw => run_loadVar_scalar hT (own_cell hw hi hoa hx)
theorem get_mid {α : Type} {a b c : List α} {j : Nat} {v : α} (h : b[j]? = some v) : (a ++ (b ++ c))[a.length + j]? = some v := by
  rw [List.getElem?_append_right (by omega), List.getElem?_append_left (by have := (List.getElem?_eq_some_iff.1 h).1; omega)]
  rw [show a.length + j - a.length = j from by omega]; exact h
theorem splice_mid {α : Type} (a b c vs : List α) (h : b.length = vs.length) : (a ++ (b ++ c)).take a.length ++ vs ++ (a ++ (b ++ c)).drop (a.length + vs.length) = a ++ (vs ++ c) := by
  rw [List.take_left, ← h, ← List.drop_drop, List.drop_left, List.drop_left, List.append_assoc]
section
variable {P : Program} {r : Option Nat} {N : Nat} {ops : Array Oper} {rest : List Oper} {Q : Exit → Act → World → Prop} {E : Env} {ds : List Deferred} {M : List HP} {F : List Fact}
variable {ty : TypeId} {pos : String} {aft : Array Edge} {gd : Option (Nat × Bool)}
theorem EV.storeO {t e size n cap b off : Nat} {oa : Option Addr} {xs vs : List Value} {v : Value} {x y : Operand} (i : Nat) (hx : evalO E x = some (.pointer (some ⟨b, off, none⟩))) (hy : evalO E y = some v) (hi : M[i]? = some (OwnSl e size oa n cap xs)) (hoa : oa = some ⟨b, 0, none⟩) (ht : tySize P t vs.length = true) (hv : v.cells = vs.toArray)
    (ho : off + vs.length ≤ xs.length) (h1 : vs.all Value.oneCell' = true) : EV P r Q E M F ⟨none, .store t x y, ty, pos, aft, gd⟩ Unit (fun _ => undef) (fun _ => M.set i (OwnSl e size oa n cap (xs.take off ++ vs ++ xs.drop (off + vs.length)))) (fun _ => F) :=
  EV.of_eff rfl fun ρ hρ w hw => by
    obtain ⟨w', h2, h3⟩ := own_store hw hi hoa ht hv ho h1
    exact ⟨w', by simp [execOp, hρ _ _ hx, hρ _ _ hy, Instr.storeAt, Instr.sureAddr, h2], h3⟩
theorem RL.ofEV {o : Oper} {v : Value} {M' : List HP} (hd : o.dst = none) (hg : wantedG ops E o.guard = some true) (h : EV P r Q E M F o Unit (fun _ => v) (fun _ => M') (fun _ => F)) (k : RL P r N ops rest Q E ds M' F) : RL P r N ops (o :: rest) Q E ds M F := by
  refine RL.step h.1 hg fun a w hs hw => ?_
  refine h.2 a w _ (fun x u hx => hs.eval hx) hw fun i w' hw' => ?_
  rw [hd]
  exact k a w' hs hw'
end

/-! ### Trees of one's own -/
mutual
def OTp (e : Nat) (w : World) : Tree → Option Addr → Nat → Nat → List Nat → Prop
  | .node _ _ _ ks, a, len, cap, K => ∃ cs K1 K2, K = K1 ++ K2 ∧ (OwnSl e 4 a len cap cs).p w K1 ∧ OTsp e w ks cs K2
def OTsp (e : Nat) (w : World) : List Tree → List Value → List Nat → Prop
  | [], cs, K => cs = [] ∧ K = []
  | t :: ts, cs, K => ∃ a len cap rest K1 K2, cs = nodeC t a len cap ++ rest ∧ K = K1 ++ K2 ∧ OTp e w t a len cap K1 ∧ OTsp e w ts rest K2
end
mutual
theorem OTp.loc {e w w'} : ∀ {t a len cap K}, OTp e w t a len cap K → (∀ b, b ∈ K → w'.heap[b]? = w.heap[b]?) → OTp e w' t a len cap K
  | .node _ _ _ ks, a, len, cap, K, h, hs => by
    simp only [OTp] at h ⊢
    obtain ⟨cs, K1, K2, rfl, h1, h2⟩ := h
    exact ⟨cs, K1, K2, rfl, (OwnSl e 4 a len cap cs).loc h1 fun b hb => hs b (by simp [hb]), OTsp.loc h2 fun b hb => hs b (by simp [hb])⟩
theorem OTsp.loc {e w w'} : ∀ {ts cs K}, OTsp e w ts cs K → (∀ b, b ∈ K → w'.heap[b]? = w.heap[b]?) → OTsp e w' ts cs K
  | [], cs, K, h, _ => by simpa only [OTsp] using h
  | t :: ts, cs, K, h, hs => by
    simp only [OTsp] at h ⊢
    obtain ⟨a, len, cap, rest, K1, K2, h0, rfl, h1, h2⟩ := h
    exact ⟨a, len, cap, rest, K1, K2, h0, rfl, OTp.loc h1 fun b hb => hs b (by simp [hb]), OTsp.loc h2 fun b hb => hs b (by simp [hb])⟩
end
mutual
theorem OTp.lt {e w} : ∀ {t a len cap K}, OTp e w t a len cap K → ∀ b, b ∈ K → b < w.heap.size
  | .node _ _ _ ks, a, len, cap, K, h, b, hb => by
    simp only [OTp] at h
    obtain ⟨cs, K1, K2, rfl, h1, h2⟩ := h
    rcases List.mem_append.1 hb with h | h
    · exact (OwnSl e 4 a len cap cs).lt h1 b h
    · exact OTsp.lt h2 b h
theorem OTsp.lt {e w} : ∀ {ts cs K}, OTsp e w ts cs K → ∀ b, b ∈ K → b < w.heap.size
  | [], cs, K, h, b, hb => by simp only [OTsp] at h; rw [h.2] at hb; cases hb
  | t :: ts, cs, K, h, b, hb => by
    simp only [OTsp] at h
    obtain ⟨a, len, cap, rest, K1, K2, h0, rfl, h1, h2⟩ := h
    rcases List.mem_append.1 hb with h | h
    · exact OTp.lt h1 b h
    · exact OTsp.lt h2 b h
end
def OT (e : Nat) (t : Tree) (a : Option Addr) (len cap : Nat) : HP := ⟨fun w K => OTp e w t a len cap K, fun h hs => OTp.loc h hs, fun h => OTp.lt h⟩
def OTs (e : Nat) (ts : List Tree) (cs : List Value) : HP := ⟨fun w K => OTsp e w ts cs K, fun h hs => OTsp.loc h hs, fun h => OTsp.lt h⟩
theorem OTsp.length {e w} : ∀ {ts cs K}, OTsp e w ts cs K → cs.length = ts.length * 4
  | [], cs, K, h => by simp only [OTsp] at h; rw [h.1]; rfl
  | t :: ts, cs, K, h => by
    simp only [OTsp] at h
    obtain ⟨a, len, cap, rest, K1, K2, h0, _, _, h2⟩ := h
    rw [h0, List.length_append, OTsp.length h2, List.length_cons]; simp; omega
theorem OTsp.append {e w} : ∀ {ts us : List Tree} {cs : List Value} {K : List Nat}, OTsp e w (ts ++ us) cs K ↔ ∃ c1 c2 K1 K2, cs = c1 ++ c2 ∧ K = K1 ++ K2 ∧ OTsp e w ts c1 K1 ∧ OTsp e w us c2 K2
  | [], us, cs, K => ⟨fun h => ⟨[], cs, [], K, rfl, rfl, by simp only [OTsp, and_self], h⟩, fun ⟨c1, c2, K1, K2, h1, h2, h3, h4⟩ => by
    simp only [OTsp] at h3; rw [h3.1] at h1; rw [h3.2] at h2; subst h1; subst h2; exact h4⟩
  | t :: ts, us, cs, K => by
    rw [List.cons_append]
    simp only [OTsp]
    constructor
    · rintro ⟨a, len, cap, rest, K1, K2, rfl, rfl, h1, h2⟩
      obtain ⟨c1, c2, K3, K4, rfl, rfl, h3, h4⟩ := OTsp.append.1 h2
      exact ⟨nodeC t a len cap ++ c1, c2, K1 ++ K3, K4, by simp, by simp, ⟨a, len, cap, c1, K1, K3, rfl, rfl, h1, h3⟩, h4⟩
    · rintro ⟨c1, c2, K1, K2, rfl, rfl, ⟨a, len, cap, rest, K3, K4, rfl, rfl, h1, h2⟩, h4⟩
      exact ⟨a, len, cap, rest ++ c2, K3, K4 ++ K2, by simp, by simp, h1, OTsp.append.2 ⟨rest, c2, K4, K2, rfl, rfl, h2, h4⟩⟩
section
variable {w : World} {M : List HP} {F : List Fact} {e : Nat}
theorem St.otOpen {t : Tree} {a : Option Addr} {len cap : Nat} (h : St w (OT e t a len cap :: M) F) : ∃ cs, St w (OwnSl e 4 a len cap cs :: OTs e t.kids cs :: M) F := by
  obtain ⟨K, ⟨K1, K2, rfl, h1, h2⟩, hn, hf⟩ := h
  cases t with
  | node i k tx ks =>
    have h1 : OTp e w (.node i k tx ks) a len cap K1 := h1
    simp only [OTp] at h1
    obtain ⟨cs, K3, K4, rfl, h3, h4⟩ := h1
    exact ⟨cs, _, ⟨K3, K4 ++ K2, by simp, h3, K4, K2, rfl, h4, h2⟩, hn, hf⟩
theorem St.otClose {t : Tree} {a : Option Addr} {len cap : Nat} {cs : List Value} (h : St w (OwnSl e 4 a len cap cs :: OTs e t.kids cs :: M) F) : St w (OT e t a len cap :: M) F := by
  obtain ⟨K, ⟨K3, K5, rfl, h3, K4, K2, rfl, h4, h2⟩, hn, hf⟩ := h
  cases t with
  | node i k tx ks =>
    refine ⟨_, ⟨K3 ++ K4, K2, by simp, ?_, h2⟩, hn, hf⟩
    show OTp e w (.node i k tx ks) a len cap (K3 ++ K4)
    simp only [OTp]
    exact ⟨cs, K3, K4, rfl, h3, h4⟩
theorem St.otsNil (h : St w M F) : St w (OTs e [] [] :: M) F := by
  obtain ⟨K, ho, hn, hf⟩ := h
  exact ⟨K, ⟨[], K, rfl, (show OTsp e w [] [] [] by simp only [OTsp, and_self]), ho⟩, hn, hf⟩
theorem St.otsSnoc {ts : List Tree} {cs : List Value} {t : Tree} {a : Option Addr} {len cap : Nat} (h : St w (OTs e ts cs :: OT e t a len cap :: M) F) : St w (OTs e (ts ++ [t]) (cs ++ nodeC t a len cap) :: M) F := by
  obtain ⟨K, ⟨K3, K5, rfl, h3, K4, K2, rfl, h4, h2⟩, hn, hf⟩ := h
  refine ⟨_, ⟨K3 ++ K4, K2, by simp, ?_, h2⟩, hn, hf⟩
  refine OTsp.append.2 ⟨cs, nodeC t a len cap, K3, K4, rfl, rfl, h3, ?_⟩
  simp only [OTsp]
  exact ⟨a, len, cap, [], K4, [], by simp, by simp, h4, by simp⟩
theorem St.otsLen {ts : List Tree} {cs : List Value} {i : Nat} (h : St w M F) (hi : M[i]? = some (OTs e ts cs)) : cs.length = ts.length * 4 := by
  obtain ⟨K, ⟨K3, K5, _, h3, _⟩, _⟩ := h.front hi
  exact OTsp.length h3
/-- a row of trees, parted at the k-th -/
theorem St.otsPart {ts : List Tree} {cs : List Value} {k : Nat} (hk : k < ts.length) (h : St w (OTs e ts cs :: M) F) : ∃ (c1 c2 : List Value) (x : TX), x.t = ts[k] ∧ c1.length = k * 4 ∧ cs = c1 ++ (x.c ++ c2) ∧ St w (OTs e (ts.take k) c1 :: OT e x.t x.a x.len x.cap :: OTs e (ts.drop (k + 1)) c2 :: M) F := by
  obtain ⟨K, ⟨K1, K2, rfl, h1, h2⟩, hn, hf⟩ := h
  have h1 : OTsp e w ts cs K1 := h1
  rw [← List.take_append_drop k ts, List.drop_eq_getElem_cons hk] at h1
  obtain ⟨c1, c2, K3, K4, rfl, rfl, h3, h4⟩ := OTsp.append.1 h1
  simp only [OTsp] at h4
  obtain ⟨a, len, cap, rest, K5, K6, rfl, rfl, h5, h6⟩ := h4
  refine ⟨c1, rest, ⟨ts[k], a, len, cap⟩, rfl, ?_, rfl, _, ⟨K3, (K5 ++ K6) ++ K2, by simp, h3, K5, K6 ++ K2, by simp, h5, K6, K2, rfl, h6, h2⟩, hn, hf⟩
  rw [OTsp.length h3, List.length_take]; omega
theorem St.otsJoin {ts : List Tree} {k : Nat} (hk : k < ts.length) {c1 c2 : List Value} {x : TX} (h : St w (OTs e (ts.take k) c1 :: OT e x.t x.a x.len x.cap :: OTs e (ts.drop (k + 1)) c2 :: M) F) : St w (OTs e (ts.set k x.t) (c1 ++ (x.c ++ c2)) :: M) F := by
  obtain ⟨K, ⟨K3, K7, rfl, h3, K5, K8, rfl, h5, K6, K2, rfl, h6, h2⟩, hn, hf⟩ := h
  refine ⟨_, ⟨K3 ++ (K5 ++ K6), K2, by simp, ?_, h2⟩, hn, hf⟩
  show OTsp e w (ts.set k x.t) _ _
  rw [List.set_eq_take_append_cons_drop, if_pos hk]
  refine OTsp.append.2 ⟨c1, x.c ++ c2, K3, K5 ++ K6, rfl, rfl, h3, ?_⟩
  simp only [OTsp]
  exact ⟨x.a, x.len, x.cap, c2, K5, K6, rfl, rfl, h5, h6⟩
end
/-! ### A tree of one's own is let go -/
mutual
theorem OTp.tree {e w} : ∀ {t a len cap K1}, OTp e w t a len cap K1 → ∀ K, (∀ b, b ∈ K1 → b ∉ K) → TreeAt w K t (nodeV t a len cap)
  | .node i k tx ks, a, len, cap, K1, h, K, hd => by
    simp only [OTp] at h
    obtain ⟨cs, K2, K3, rfl, h1, h2⟩ := h
    have hl := OTsp.length h2
    have hl2 := h1.1.1
    have hlen : len = ks.length := by omega
    have hts := OTsp.trees h2 K fun b hb => hd b (by simp [hb])
    have hcap : len ≤ cap ∧ cap ≤ maxLen := by
      rcases h1.1.2 with ⟨hv, h0⟩ | ⟨g, c, cur, hv, _, _, hc, hm, _⟩
      · simp only [Value.slice.injEq] at hv; exact ⟨by omega, by rw [hv.2.2]; exact Nat.zero_le _⟩
      · simp only [Value.slice.injEq] at hv; exact ⟨by omega, by rw [hv.2.2]; exact hm⟩
    have ha : ArrAt w K a cs := by
      rcases OwnSl.cells h1 with h | ⟨b, off, h3, h4⟩
      · exact .inl h
      · refine .inr ⟨b, off, h3, hd b ?_, h4.2⟩
        have := h1.2
        rw [h3] at this
        rw [this]; simp
    have := tree_of (t := .node i k tx ks) ha hts (by rw [← show len = (Tree.node i k tx ks).kids.length from hlen]; exact hcap.1) hcap.2
    rw [← show len = (Tree.node i k tx ks).kids.length from hlen] at this
    exact this
theorem OTsp.trees {e w} : ∀ {ts cs K1}, OTsp e w ts cs K1 → ∀ K, (∀ b, b ∈ K1 → b ∉ K) → TreesAt w K ts cs
  | [], cs, K1, h, K, _ => by simp only [OTsp] at h; exact h.1
  | t :: ts, cs, K1, h, K, hd => by
    simp only [OTsp] at h
    obtain ⟨a, len, cap, rest, K2, K3, h0, rfl, h1, h2⟩ := h
    exact ⟨a, len, cap, rest, h0, OTp.tree h1 K fun b hb => hd b (by simp [hb]), OTsp.trees h2 K fun b hb => hd b (by simp [hb])⟩
end
theorem St.otKeep {w : World} {M : List HP} {F : List Fact} {e : Nat} {t : Tree} {a : Option Addr} {len cap : Nat} (h : St w (OT e t a len cap :: M) F) : St w M (TreeF t (nodeV t a len cap) :: F) := by
  obtain ⟨K, ⟨K1, K2, rfl, h1, h2⟩, hn, hf⟩ := h
  obtain ⟨_, n2, n3⟩ := List.nodup_append.1 hn
  refine ⟨K2, h2, n2, fun φ hφ => ?_⟩
  rcases List.mem_cons.1 hφ with ee | ee
  · subst ee
    exact OTp.tree h1 K2 fun b hb hb2 => n3 b hb b hb2 rfl
  · exact φ.mono (hf φ ee) ⟨rfl, rfl, rfl, Nat.le_refl _, fun _ _ _ => rfl, fun c hc => .inl (by simp [hc])⟩
/-! ### A node's row of kids, as it lies -/
theorem kids_cells {w : World} {K : List Nat} {b off : Nat} : ∀ {ts : List Tree} {o : Nat}, KidsAt w K b (off + o) ts → ∃ cs, TreesAt w K ts cs ∧ (ts ≠ [] → b ∉ K ∧ b < w.heap.size) ∧ ∀ j v, cs[j]? = some v → w.cell? ⟨b, off + o + j, none⟩ = some v
  | [], o, _ => ⟨[], rfl, fun h => absurd rfl h, fun j v h => by simp at h⟩
  | t :: ts, o, h => by
    simp only [KidsAt] at h
    obtain ⟨⟨c, h1, h2⟩, h3⟩ := h
    rw [Nat.add_assoc] at h3
    obtain ⟨cs, h4, _, h5⟩ := kids_cells (o := o + 4) h3
    obtain ⟨a, len, cap, hv, _⟩ := h2.shape
    simp only [Value.agg.injEq] at hv
    have hc : c = nodeC t a len cap := by simpa using hv
    subst hc
    refine ⟨nodeC t a len cap ++ cs, ⟨a, len, cap, cs, rfl, h2, h4⟩, fun _ => ⟨h1.1, h1.2.1⟩, fun j v hv => ?_⟩
    rcases Nat.lt_or_ge j 4 with hj | hj
    · rw [List.getElem?_append_left (by simpa using hj)] at hv
      exact h1.2.2 j v hv
    · rw [List.getElem?_append_right (by simpa using hj)] at hv
      have := h5 _ v hv
      rw [show off + (o + 4) + (j - (nodeC t a len cap).length) = off + o + j from by simp; omega] at this
      exact this
theorem open_cells {M F} {t : Tree} {a : Option Addr} {len cap : Nat} (hF : TreeF t (nodeV t a len cap) ∈ F) : ∀ w, St w M F → ∃ cs, (len = t.kids.length ∧ len ≤ cap ∧ cap ≤ 9223372036854775807) ∧ St w M (ArrF a cs :: TreesF t.kids cs :: F) := by
  intro w hw
  obtain ⟨hl, hw2⟩ := open_node hF w hw
  obtain ⟨K, ho, hn, hf⟩ := hw2
  have key : ∃ cs, ArrAt w K a cs ∧ TreesAt w K t.kids cs := by
    rcases hf _ (.head _) with h0 | ⟨b, off, h1, h2⟩
    · exact ⟨[], .inl rfl, by rw [h0]; rfl⟩
    · obtain ⟨cs, h3, h4, h5⟩ := kids_cells (o := 0) h2
      refine ⟨cs, ?_, h3⟩
      by_cases h0 : t.kids = []
      · rw [h0] at h3; exact .inl h3
      · exact .inr ⟨b, off, h1, (h4 h0).1, (h4 h0).2, h5⟩
  obtain ⟨cs, h1, h2⟩ := key
  refine ⟨cs, hl, K, ho, hn, fun φ hφ => ?_⟩
  rcases List.mem_cons.1 hφ with e | hφ
  · subst e; exact h1
  rcases List.mem_cons.1 hφ with e | hφ
  · subst e; exact h2
  · exact hf φ (.tail _ hφ)
theorem open_trees {M F} {t : Tree} {ts : List Tree} {cs : List Value} (hF : TreesF (t :: ts) cs ∈ F) : ∀ w, St w M F → ∃ (y : TX × List Value), (y.1.t = t ∧ cs = y.1.c ++ y.2) ∧ St w M (TreeF y.1.t y.1.v :: TreesF ts y.2 :: F) := by
  intro w hw
  obtain ⟨K, ho, hn, hf⟩ := hw
  obtain ⟨a, len, cap, rest, h1, h2, h3⟩ := hf _ hF
  refine ⟨(⟨t, a, len, cap⟩, rest), ⟨rfl, h1⟩, K, ho, hn, fun φ hφ => ?_⟩
  rcases List.mem_cons.1 hφ with e | hφ
  · subst e; exact h2
  rcases List.mem_cons.1 hφ with e | hφ
  · subst e; exact h3
  · exact hf φ hφ
theorem St.swap {w : World} {a b : HP} {M : List HP} {F : List Fact} (h : St w (a :: b :: M) F) : St w (b :: a :: M) F := h.perm (.swap _ _ _)
theorem St.rot3 {w : World} {a b c : HP} {M : List HP} {F : List Fact} (h : St w (a :: b :: c :: M) F) : St w (c :: a :: b :: M) F := h.perm ((List.Perm.swap c b M).cons a |>.trans (.swap _ _ _))
theorem trees_nil {w : World} {M : List HP} {F : List Fact} {cs : List Value} (h : St w M F) (hF : TreesF [] cs ∈ F) : cs = [] := by
  obtain ⟨K, hK⟩ := h.fact hF
  exact hK
theorem arr_nil {w : World} {M : List HP} {F : List Fact} {cs : List Value} (h : St w M F) (hF : ArrF none cs ∈ F) : cs = [] := by
  obtain ⟨K, hK⟩ := h.fact hF
  rcases hK with h | ⟨b, off, e, _⟩
  · exact h
  · cases e
theorem cutA_zero {a : Option Addr} {b off cap size : Nat} (h : a = some ⟨b, off, none⟩) : cutA a 0 cap size = some ⟨b, off, none⟩ := by
  unfold cutA
  split
  · exact h
  · rw [h]; simp [addr_add]
/-! ### A node at a path -/
namespace Tree
def get : Tree → List Int → Nat → Option (Tree × Nat)
  | t, [], p => some (t, p)
  | t, i :: is, p => if i < 0 then none else match t.kids[i.toNat]? with
    | some k => get k is (p + ((t.kids.take i.toNat).flatMap text).length)
    | none => none
def getR (t : Tree) (is : List Int) : Tree × Int × Bool := match t.get is 0 with
  | some (k, p) => (k, p, true)
  | none => (.node 0 0 [] [], 0, false)
theorem get_out {t : Tree} {i : Int} {is : List Int} {p : Nat} (h : i < 0 ∨ (t.kids.length : Int) ≤ i) : t.get (i :: is) p = none := by
  rw [get]
  split
  · rfl
  · rw [List.getElem?_eq_none (by omega)]
theorem get_in {t : Tree} {i : Nat} {is : List Int} {p : Nat} (h : i < t.kids.length) : t.get ((i : Int) :: is) p = t.kids[i].get is (p + ((t.kids.take i).flatMap text).length) := by
  rw [get, if_neg (by omega), Int.toNat_natCast, List.getElem?_eq_getElem h]
theorem Small.inner {d : Nat} {t : Tree} (h : Small d t) {k : Nat} (hk : k < t.kids.length) : t.isLeaf = false := by
  cases hl : t.isLeaf with
  | false => rfl
  | true => rw [(h.leaf hl).1] at hk; simp at hk
end Tree
end Go.GL
