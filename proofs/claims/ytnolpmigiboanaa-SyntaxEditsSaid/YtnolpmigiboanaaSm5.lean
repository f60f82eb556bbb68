/- A place in a tree of one's own: its row apart, and how the tree is whole again. No condition; over every program. -/
import Derived.Test.YtnolpmigiboanaaSm4
namespace Go.GL
open Tree
theorem St.slBox {w : World} {M : List HP} {F : List Fact} {b e size n : Nat} {cs : List Value} (hn : 0 < n) (h : St w (OwnSl e size (some ⟨b, 0, none⟩) n n cs :: M) F) : St w (Box b e cs :: M) F :=
  h.turn rfl rfl rfl (Nat.le_refl _) fun K ⟨ho, hK⟩ => by
    refine ⟨K, ⟨by simpa using hK, ?_⟩, by simp [hK], fun c hc => .inl hc, fun c _ _ => rfl⟩
    rcases ho.2 with ⟨hv, h0⟩ | ⟨g, c, cur, hv, _, hg, _, _, hs, ht⟩
    · omega
    · simp only [Value.slice.injEq, Option.some.injEq, Addr.mk.injEq] at hv
      obtain ⟨⟨rfl, _⟩, _, rfl⟩ := hv
      have : cur.toList = cs := by rw [← ht, List.take_of_length_le (by simp [hs])]
      rw [hg, ← this]
theorem ot_len {e i len cap : Nat} {t : Tree} {a : Option Addr} {M : List HP} {F : List Fact} (hi : M[i]? = some (OT e t a len cap)) : ∀ w, St w M F → len = t.kids.length ∧ St w M F := fun w hw => by
  have h := hw.front hi
  obtain ⟨cs, h2⟩ := h.otOpen
  have h3 := h2.ownLen.1
  have h4 := h2.otsLen (i := 1) rfl
  exact ⟨by omega, hw⟩
namespace Tree
theorem Small.repl {e : Nat} {u : Tree} (hu : Small e u) : ∀ {ps : List Int} {t v : Tree} {d : Nat}, Small d t → Tree.repl t ps u = some v → Small (max d (ps.length + e)) v
  | [], t, v, d, _, h => by
    rw [Tree.repl] at h
    cases h
    exact hu.mono (by simp; omega)
  | i :: is, t, v, 0, ht, _ => ht.elim
  | i :: is, t, v, d + 1, ht, h => by
    rw [Tree.repl] at h
    split at h
    · cases h
    · cases hk : t.kids[i.toNat]? with
      | none => rw [hk] at h; cases h
      | some k =>
        rw [hk] at h
        simp only at h
        cases hr : Tree.repl k is u with
        | none => rw [hr] at h; cases h
        | some v' =>
          rw [hr] at h
          cases h
          have hkm : k ∈ t.kids := List.mem_of_getElem? hk
          have ih := Small.repl hu (ht.kid hkm) hr
          rw [show max (d + 1) ((i :: is).length + e) = max d (is.length + e) + 1 from by simp; omega]
          refine ⟨ht.1, by show (t.kids.set i.toNat v').length ≤ 4; rw [List.length_set]; exact ht.2.1, fun hl => ?_, fun z hz => ?_⟩
          · have : t.kids = [] := ht.2.2.1 hl
            show t.kids.set i.toNat v' = []
            rw [this]; rfl
          · rcases List.mem_or_eq_of_mem_set (show z ∈ t.kids.set i.toNat v' from hz) with h | h
            · exact (ht.kid h).mono (by omega)
            · rw [h]; exact ih
theorem Small.replR {d e : Nat} {t u : Tree} {ps : List Int} (ht : Small d t) (hu : Small e u) (hp : ps.length ≤ 4) {m : Nat} (hm : d ≤ m) (hm2 : 4 + e ≤ m) : Small m (Tree.replR t ps u).1 := by
  unfold Tree.replR
  cases h : Tree.repl t ps u with
  | none => exact Small.zero (by omega)
  | some v => exact (Small.repl hu ht h).mono (by omega)
theorem get_repl {u : Tree} : ∀ {ps : List Int} {t v : Tree} {p : Nat}, Tree.repl t ps u = some v → ∃ q, v.get ps p = some (u, q)
  | [], t, v, p, h => by rw [Tree.repl] at h; cases h; exact ⟨p, by rw [Tree.get]⟩
  | i :: is, t, v, p, h => by
    rw [Tree.repl] at h
    split at h
    · cases h
    · rename_i hi
      cases hk : t.kids[i.toNat]? with
      | none => rw [hk] at h; cases h
      | some k =>
        rw [hk] at h
        simp only at h
        cases hr : Tree.repl k is u with
        | none => rw [hr] at h; cases h
        | some v' =>
          rw [hr] at h
          cases h
          have hlt := (List.getElem?_eq_some_iff.1 hk).1
          rw [Tree.get, if_neg hi]
          have e9 : (Tree.node t.id t.kind t.txt (t.kids.set i.toNat v')).kids[i.toNat]? = some v' := List.getElem?_set_self hlt
          simp only [e9]
          exact get_repl hr
theorem getR_replR {t u : Tree} {ps : List Int} (h : (Tree.replR t ps u).2 = true) : ((Tree.replR t ps u).1.getR ps).1 = u ∧ ((Tree.replR t ps u).1.getR ps).2.2 = true := by
  unfold Tree.replR at h ⊢
  cases hr : Tree.repl t ps u with
  | none => rw [hr] at h; cases h
  | some v =>
    obtain ⟨q, hq⟩ := get_repl (p := 0) hr
    show (v.getR ps).1 = u ∧ (v.getR ps).2.2 = true
    unfold getR
    rw [hq]
    exact ⟨rfl, rfl⟩
end Tree
/-- a place in a tree of one's own: the row that holds it, its tree, the rest -/
structure ZX where
  k : Nat
  rb : Nat
  rn : Nat
  rc : Nat
  c1 : List Value
  c2 : List Value
  t : Tree
  a : Option Addr
  len : Nat
  cap : Nat
  plug : Tree → Tree
  Mr : List HP
abbrev ZX.M (x : ZX) (v : TX) : List HP := OwnSl 25 4 (some ⟨x.rb, 0, none⟩) x.rn x.rc (x.c1 ++ (v.c ++ x.c2)) :: OT 25 v.t v.a v.len v.cap :: x.Mr
structure ZX.Ok (x : ZX) (n : Tree) (ps : List Int) (b : Nat) (M : List HP) : Prop where
  k : x.k ≤ ps.length
  at_ : ∀ u, repl n ps u = (repl x.t (ps.drop x.k) u).map x.plug
  close : ∀ w F (v : TX), St w (x.M v) F → ∃ y : TX, y.t = x.plug v.t ∧ St w (Box b 25 y.c :: OT 25 y.t y.a y.len y.cap :: M) F
theorem ZX.first (n : Tree) (ps : List Int) (b : Nat) (M : List HP) (a : Option Addr) (len cap : Nat) : ZX.Ok ⟨0, b, 1, 1, [], [], n, a, len, cap, fun t => t, M⟩ n ps b M :=
  ⟨Nat.zero_le _, fun u => by simp, fun w F v h => ⟨v, rfl, by
    have h' : St w (OwnSl 25 4 (some ⟨b, 0, none⟩) 1 1 ([] ++ (v.c ++ [])) :: OT 25 v.t v.a v.len v.cap :: M) F := h
    rw [List.nil_append, List.append_nil] at h'
    exact h'.slBox (by omega)⟩⟩
structure ZY where
  b : Nat
  c1 : List Value
  c2 : List Value
  v : TX
theorem ZX.down {x : ZX} {F : List Fact} {i : Nat} (hi : i < x.t.kids.length) : ∀ w, St w (x.M ⟨x.t, x.a, x.len, x.cap⟩) F → ∃ y : ZY, (y.v.t = x.t.kids[i] ∧ x.a = some ⟨y.b, 0, none⟩ ∧ y.c1.length = i * 4) ∧
    St w (OwnSl 25 4 (some ⟨y.b, 0, none⟩) x.len x.cap (y.c1 ++ (y.v.c ++ y.c2)) :: OT 25 y.v.t y.v.a y.v.len y.v.cap :: OTs 25 (x.t.kids.take i) y.c1 :: OTs 25 (x.t.kids.drop (i + 1)) y.c2 :: OwnSl 25 4 (some ⟨x.rb, 0, none⟩) x.rn x.rc (x.c1 ++ (nodeC x.t x.a x.len x.cap ++ x.c2)) :: x.Mr) F := fun w hw => by
  obtain ⟨cs, h1⟩ := hw.swap.otOpen
  obtain ⟨c1, c2, v, hv, hl, rfl, h2⟩ := h1.swap.otsPart hi
  have h3 := h2.perm (List.perm_middle (l₁ := [_, _, _]))
  obtain ⟨b, hb, h4⟩ := own_at (i := 0) rfl (by simp) h3
  refine ⟨⟨b, c1, c2, v⟩, ⟨hv, hb, hl⟩, ?_⟩
  rw [hb] at h4
  exact h4.perm ((List.Perm.swap _ _ _).cons _)
/-- one step down -/
abbrev ZX.kid (x : ZX) (i : Nat) (y : ZY) : ZX := ⟨x.k + 1, y.b, x.len, x.cap, y.c1, y.c2, y.v.t, y.v.a, y.v.len, y.v.cap, fun u => x.plug (.node x.t.id x.t.kind x.t.txt (x.t.kids.set i u)),
  OTs 25 (x.t.kids.take i) y.c1 :: OTs 25 (x.t.kids.drop (i + 1)) y.c2 :: OwnSl 25 4 (some ⟨x.rb, 0, none⟩) x.rn x.rc (x.c1 ++ (nodeC x.t x.a x.len x.cap ++ x.c2)) :: x.Mr⟩
theorem ZX.Ok.kid {x : ZX} {n : Tree} {ps : List Int} {b : Nat} {M : List HP} (h : x.Ok n ps b M) {i : Nat} (hi : i < x.t.kids.length) {y : ZY} (hy : y.v.t = x.t.kids[i]) (ha : x.a = some ⟨y.b, 0, none⟩) (hk : x.k < ps.length) (hp : ps[x.k] = (i : Int)) : (x.kid i y).Ok n ps b M := by
  refine ⟨hk, fun u => ?_, fun w F v hw => ?_⟩
  · rw [h.at_ u, List.drop_eq_getElem_cons hk, hp, repl_in hi, Option.map_map, ← hy]
    rfl
  · have h1 : St w (OwnSl 25 4 (some ⟨y.b, 0, none⟩) x.len x.cap (y.c1 ++ (v.c ++ y.c2)) :: OT 25 v.t v.a v.len v.cap :: OTs 25 (x.t.kids.take i) y.c1 :: OTs 25 (x.t.kids.drop (i + 1)) y.c2 :: OwnSl 25 4 (some ⟨x.rb, 0, none⟩) x.rn x.rc (x.c1 ++ (nodeC x.t x.a x.len x.cap ++ x.c2)) :: x.Mr) F := hw
    have h2 := h1.rot3.perm (((List.Perm.swap _ _ _).trans ((List.Perm.swap _ _ _).cons _)).cons _)
    have h3 := (St.otsJoin (x := v) hi h2).swap
    have h3 := (h2.otsJoin hi).swap
    have h4 := St.otClose (t := .node x.t.id x.t.kind x.t.txt (x.t.kids.set i v.t)) h3
    have h5 := h4.swap
    exact h.close w F ⟨.node x.t.id x.t.kind x.t.txt (x.t.kids.set i v.t), some ⟨y.b, 0, none⟩, x.len, x.cap⟩ (by
      rw [← ha]
      rw [← ha] at h5
      exact h5)
end Go.GL
