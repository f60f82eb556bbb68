/- IDs written into a tree of one's own, and what they are: plain laws. No condition; over every program. -/
import Derived.Test.YtnolpmigiboanaaSm5
namespace Go.GL
open Tree
/-- a variable that holds a row of one's own -/
def SlVar (T e size b n : Nat) (xs : List Value) : HP := Ex (ι := Option Addr × Nat) fun i => [Box b T [.slice i.1 n i.2], OwnSl e size i.1 n i.2 xs]
theorem St.slVarNew {w : World} {M : List HP} {F : List Fact} {T e size b : Nat} (h : St w (Box b T [.slice none 0 0] :: M) F) : St w (SlVar T e size b 0 [] :: M) F :=
  St.exClose (none, 0) ((OwnSl.nil_new e size h).swap)
theorem St.otsUncons {w : World} {M : List HP} {F : List Fact} {e : Nat} {t : Tree} {ts : List Tree} {cs : List Value} (h : St w (OTs e (t :: ts) cs :: M) F) : ∃ y : TX × List Value, (y.1.t = t ∧ cs = y.1.c ++ y.2) ∧ St w (OT e y.1.t y.1.a y.1.len y.1.cap :: OTs e ts y.2 :: M) F := by
  obtain ⟨K, ⟨K1, K2, rfl, h1, h2⟩, hn, hf⟩ := h
  have h1 : OTsp e w (t :: ts) cs K1 := h1
  simp only [OTsp] at h1
  obtain ⟨a, len, cap, rest, K3, K4, h0, rfl, h3, h4⟩ := h1
  exact ⟨(⟨t, a, len, cap⟩, rest), ⟨rfl, h0⟩, _, ⟨K3, K4 ++ K2, by simp, h3, K4, K2, rfl, h4, h2⟩, hn, hf⟩
theorem St.otsNilE {w : World} {M : List HP} {F : List Fact} {e : Nat} {cs : List Value} (h : St w (OTs e [] cs :: M) F) : cs = [] ∧ St w M F := by
  have := h.otsLen (i := 0) rfl
  exact ⟨List.eq_nil_of_length_eq_zero (by simpa using this), h.tail⟩
theorem St.numDown {w : World} {R : List HP} {F : List Fact} {a : Option Addr} {len cap : Nat} {dn rs : List Value} {ds ts : List Tree} {t : Tree} {A B : HP} (h : St w (OwnSl 25 4 a len cap (dn ++ rs) :: OTs 25 ds dn :: OTs 25 (t :: ts) rs :: A :: B :: R) F) :
    ∃ y : TX × List Value × Nat, (y.1.t = t ∧ rs = y.1.c ++ y.2.1 ∧ a = some ⟨y.2.2, 0, none⟩) ∧ St w (OwnSl 25 4 (some ⟨y.2.2, 0, none⟩) len cap (dn ++ (y.1.c ++ y.2.1)) :: OT 25 y.1.t y.1.a y.1.len y.1.cap :: A :: B :: OTs 25 ds dn :: OTs 25 ts y.2.1 :: R) F := by
  obtain ⟨⟨v, r2⟩, ⟨hv, hr⟩, h2⟩ := (h.rot3).otsUncons
  have hr : rs = v.c ++ r2 := hr
  subst hr
  have h3 : St w (OT 25 v.t v.a v.len v.cap :: OTs 25 ts r2 :: OwnSl 25 4 a len cap (dn ++ (v.c ++ r2)) :: OTs 25 ds dn :: A :: B :: R) F := h2
  have h4 := h3.rot3
  obtain ⟨b, hb, h5⟩ := own_at (i := 0) rfl (by simp) h4
  refine ⟨(v, r2, b), ⟨hv, rfl, hb⟩, ?_⟩
  subst hb
  refine h5.perm (((List.Perm.trans ?_ (List.Perm.refl _)).cons _).cons _)
  exact ((List.perm_middle (l₁ := [OTs 25 ts r2, OTs 25 ds dn]) (a := A) (l₂ := B :: R)).trans ((List.perm_middle (l₁ := [OTs 25 ts r2, OTs 25 ds dn]) (a := B) (l₂ := R)).cons _)).trans (((List.Perm.swap _ _ _).cons _).cons _)
theorem St.numUp {w : World} {R : List HP} {F : List Fact} {a : Option Addr} {b len cap : Nat} {dn rs : List Value} {ds ts : List Tree} {v : TX} {A B : HP} (ha : a = some ⟨b, 0, none⟩) (h : St w (OwnSl 25 4 (some ⟨b, 0, none⟩) len cap (dn ++ (v.c ++ rs)) :: OT 25 v.t v.a v.len v.cap :: A :: B :: OTs 25 ds dn :: OTs 25 ts rs :: R) F) :
    St w (OwnSl 25 4 a len cap ((dn ++ v.c) ++ rs) :: OTs 25 (ds ++ [v.t]) (dn ++ v.c) :: OTs 25 ts rs :: A :: B :: R) F := by
  subst ha
  have h1 := h.perm (M' := OTs 25 ds dn :: OT 25 v.t v.a v.len v.cap :: OwnSl 25 4 (some ⟨b, 0, none⟩) len cap (dn ++ (v.c ++ rs)) :: A :: B :: OTs 25 ts rs :: R) (by
    refine (List.perm_middle (l₁ := [_, _, _, _])).trans (.cons _ (.swap _ _ _)))
  have h2 := h1.otsSnoc.swap
  rw [← List.append_assoc] at h2
  exact h2.perm (((List.perm_middle (l₁ := [_, _])).cons _).cons _)
theorem St.numEnd {w : World} {R : List HP} {F : List Fact} {a : Option Addr} {len cap : Nat} {dn rs : List Value} {t : Tree} {A B row : HP} (h : St w (OwnSl 25 4 a len cap (dn ++ rs) :: OTs 25 t.kids dn :: OTs 25 [] rs :: A :: B :: row :: R) F) :
    St w (row :: OT 25 t a len cap :: A :: B :: R) F := by
  obtain ⟨rfl, h2⟩ := h.rot3.otsNilE
  rw [List.append_nil] at h2
  have h3 := h2.otClose
  exact h3.perm (List.perm_middle (l₁ := [_, _, _]))
theorem St.numInit {w : World} {R : List HP} {F : List Fact} {a b c row A B : HP} (h : St w (a :: b :: c :: row :: A :: B :: R) F) : St w (b :: a :: c :: A :: B :: row :: R) F :=
  h.perm ((List.Perm.swap _ _ _).trans (((((List.perm_middle (l₁ := [A, B]) (a := row) (l₂ := R)).symm).cons _).cons _).cons _))
theorem St.numShuf {w : World} {R : List HP} {F : List Fact} {a b c d e : HP} (h : St w (a :: b :: c :: d :: e :: R) F) : St w (e :: b :: d :: a :: c :: R) F :=
  ((((h.front (i := 2) rfl).front (i := 1) rfl).front (i := 3) rfl).front (i := 3) rfl).front (i := 4) rfl
theorem splice0 {c1 r : List Value} {x y : Value} : (c1 ++ (x :: r)).take (c1.length + 0) ++ [y] ++ (c1 ++ (x :: r)).drop (c1.length + 0 + 1) = c1 ++ (y :: r) := by
  simp
namespace Tree
def fromN (p : Int) : Nat → List Int
  | 0 => []
  | n + 1 => p :: fromN (p + 1) n
theorem fromN_append (m n : Nat) : ∀ p : Int, fromN p (m + n) = fromN p m ++ fromN (p + m) n := by
  induction m with
  | zero => intro p; simp [fromN]
  | succ m ih =>
    intro p
    rw [show m + 1 + n = (m + n) + 1 from by omega, fromN, fromN, ih, List.cons_append]
    congr 3
    omega
theorem fromN_length (n : Nat) : ∀ p : Int, (fromN p n).length = n := by
  induction n with
  | zero => intro p; rfl
  | succ n ih => intro p; simp [fromN, ih]
theorem fromN_get (n : Nat) : ∀ (p : Int) (i : Nat) (h : i < (fromN p n).length), (fromN p n)[i] = p + i := by
  induction n with
  | zero => intro p i h; simp [fromN] at h
  | succ n ih =>
    intro p i h
    cases i with
    | zero => simp [fromN]
    | succ i =>
      have := ih (p + 1) i (by simpa [fromN] using h)
      simp only [fromN, List.getElem_cons_succ, this]
      omega
theorem nx_eq {p : Int} (h0 : -9223372036854775808 ≤ p) (h1 : p + 1 ≤ 9223372036854775807) : nx p = p + 1 := wrap64_id (by omega) h1
mutual
theorem renum_ids : ∀ (t : Tree) (p : Int), -9223372036854775808 ≤ p → p + t.pre.length ≤ 9223372036854775807 → (renum t p).1.ids = fromN p t.pre.length ∧ (renum t p).2 = p + t.pre.length
  | .node i k tx ks, p, h0, h1 => by
    have e1 : (Tree.node i k tx ks).pre.length = (preAll ks).length + 1 := by rw [pre]; rfl
    rw [e1] at h1 ⊢
    have e2 : nx p = p + 1 := nx_eq h0 (by omega)
    obtain ⟨h2, h3⟩ := renumAll_ids ks (p + 1) (by omega) (by omega)
    rw [renum, e2]
    refine ⟨?_, by rw [h3]; omega⟩
    rw [ids, pre, List.map_cons, h2, fromN]
    rfl
theorem renumAll_ids : ∀ (ts : List Tree) (p : Int), -9223372036854775808 ≤ p → p + (preAll ts).length ≤ 9223372036854775807 → (preAll (renumAll ts p).1).map id = fromN p (preAll ts).length ∧ (renumAll ts p).2 = p + (preAll ts).length
  | [], p, h0, h1 => by simp [renumAll, preAll, fromN]
  | t :: ts, p, h0, h1 => by
    have e1 : (preAll (t :: ts)).length = t.pre.length + (preAll ts).length := by rw [preAll, List.length_append]
    rw [e1] at h1 ⊢
    obtain ⟨h2, h3⟩ := renum_ids t p h0 (by omega)
    obtain ⟨h4, h5⟩ := renumAll_ids ts (p + t.pre.length) (by omega) (by omega)
    rw [renumAll]
    simp only [h3]
    rw [preAll, List.map_append, h4, fromN_append, h5]
    refine ⟨?_, by omega⟩
    congr 1
end
theorem ids_length (t : Tree) : t.ids.length = t.pre.length := by rw [ids, List.length_map]
end Tree
end Go.GL
