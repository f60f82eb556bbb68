/- The rules of the walk for slices, texts and what is built or grown. No condition; over every program. -/
import Derived.Test.YtdlpaojkkekdlaaTree
import Derived.Laws.OwnMore
import Derived.Lib.Strings
namespace Go.GL

/-! ### More of what is owned, more that lasts -/
/-- 'for some i, all of M i' as one part -/
def Ex {ι : Type} (M : ι → List HP) : HP where
  p w K := ∃ i, Own w (M i) K
  loc := fun ⟨i, h⟩ hs => ⟨i, h.loc hs⟩
  lt := fun ⟨_, h⟩ b hb => h.lt b hb
theorem St.exOpen {w : World} {ι : Type} {M0 : ι → List HP} {M : List HP} {F : List Fact} (h : St w (Ex M0 :: M) F) : ∃ i, St w (M0 i ++ M) F := by
  obtain ⟨K, ⟨K1, K2, e, ⟨i, h1⟩, h2⟩, hn, hf⟩ := h
  exact ⟨i, K, Own.append.2 ⟨K1, K2, e, h1, h2⟩, hn, hf⟩
theorem St.exClose {w : World} {ι : Type} {M0 : ι → List HP} {M : List HP} {F : List Fact} (i : ι) (h : St w (M0 i ++ M) F) : St w (Ex M0 :: M) F := by
  obtain ⟨K, ho, hn, hf⟩ := h
  obtain ⟨K1, K2, e, h1, h2⟩ := Own.append.1 ho
  exact ⟨K, ⟨K1, K2, e, ⟨i, h1⟩, h2⟩, hn, hf⟩
/-- a slice of the call's own: it may be appended to -/
def OwnSl (e : TypeId) (size : Nat) (oa : Option Addr) (n cap : Nat) (xs : List Value) : HP where
  p w K := w.ownsRow 0 e size (.slice oa n cap) n xs ∧ K = (match oa with | some a => [a.block] | none => [])
  loc := fun {w w' K} ⟨h, hk⟩ hs => by
    refine ⟨⟨h.1, ?_⟩, hk⟩
    rcases h.2 with h2 | ⟨g, c, cur, hv, hb, hg, rest⟩
    · exact .inl h2
    · simp only [Value.slice.injEq] at hv
      obtain ⟨rfl, _, rfl⟩ := hv
      exact .inr ⟨g, cap, cur, rfl, hb, (hs g (by simp [hk])).trans hg, rest⟩
  lt := fun {w K} ⟨h, hk⟩ b hb => by
    rcases h.2 with ⟨hv, _⟩ | ⟨g, c, cur, hv, hb', hg, rest⟩
    · simp only [Value.slice.injEq] at hv
      obtain ⟨rfl, _, rfl⟩ := hv
      simp [hk] at hb
    · simp only [Value.slice.injEq] at hv
      obtain ⟨rfl, _, rfl⟩ := hv
      simp [hk] at hb
      subst hb
      exact (Array.getElem?_eq_some_iff.1 hg).1
/-- a slice's cells, for good (nil and empty let in) -/
def ArrAt (w : World) (K : List Nat) (oa : Option Addr) (xs : List Value) : Prop := xs = [] ∨ ∃ b off, oa = some ⟨b, off, none⟩ ∧ CellsAt w K b off xs
theorem ArrAt.mono {w w' K K' oa xs} (h : ArrAt w K oa xs) (e : Evo w K w' K') : ArrAt w' K' oa xs := by
  rcases h with h | ⟨b, off, h1, h2⟩
  · exact .inl h
  · exact .inr ⟨b, off, h1, h2.mono e⟩
def ArrF (oa : Option Addr) (xs : List Value) : Fact := ⟨fun w K => ArrAt w K oa xs, fun h e => h.mono e⟩
/-- a proposition that hangs on no world -/
def PureF (p : Prop) : Fact := ⟨fun _ _ => p, fun h _ => h⟩

section
variable {w : World} {M : List HP} {F : List Fact} {e : TypeId} {size n cap : Nat} {oa : Option Addr} {xs : List Value}
theorem OwnSl.nil_new {w : World} {M : List HP} {F : List Fact} (e : TypeId) (size : Nat) (h : St w M F) : St w (OwnSl e size none 0 0 [] :: M) F := by
  obtain ⟨K, ho, hn, hf⟩ := h
  exact ⟨K, ⟨[], K, rfl, ⟨World.ownsRow_nil w 0 e size, rfl⟩, ho⟩, hn, hf⟩
theorem OwnSl.len {w : World} {K : List Nat} (h : (OwnSl e size oa n cap xs).p w K) : xs.length = n * size := h.1.1
theorem St.ownLen (h : St w (OwnSl e size oa n cap xs :: M) F) : xs.length = n * size ∧ n ≤ cap := by
  obtain ⟨K, ⟨K1, K2, _, h1, _⟩, _⟩ := h
  refine ⟨h1.1.1, ?_⟩
  rcases h1.1.2 with ⟨hv, h0⟩ | ⟨g, c, cur, hv, _, _, hc, _⟩
  · omega
  · simp only [Value.slice.injEq] at hv; omega
theorem OwnSl.cells {K : List Nat} (h : (OwnSl e size oa n cap xs).p w K) : ArrAt w [] oa xs := by
  obtain ⟨h, hk⟩ := h
  rcases h.2 with ⟨hv, h0⟩ | ⟨g, c, cur, hv, hb, hg, hc, hm, hs, ht⟩
  · subst h0
    exact .inl (List.eq_nil_of_length_eq_zero (by simpa using h.1))
  · simp only [Value.slice.injEq] at hv
    obtain ⟨rfl, _, rfl⟩ := hv
    refine .inr ⟨g, 0, rfl, by simp, (Array.getElem?_eq_some_iff.1 hg).1, fun j v hv => ?_⟩
    rw [Nat.zero_add, cell_of_row w g j cur e (0, 0) hg]
    rw [← ht, List.getElem?_take] at hv
    split at hv
    · simpa using hv
    · cases hv
/-- an owned slice is let go: it lasts -/
theorem St.keepSl (h : St w (OwnSl e size oa n cap xs :: M) F) : St w M (ArrF oa xs :: F) := by
  obtain ⟨K, ⟨K1, K2, ee, h1, h2⟩, hn, hf⟩ := h
  subst ee
  obtain ⟨_, n2, n3⟩ := List.nodup_append.1 hn
  refine ⟨K2, h2, n2, fun φ hφ => ?_⟩
  rcases List.mem_cons.1 hφ with ee | ee
  · subst ee
    rcases OwnSl.cells h1 with h0 | ⟨b, off, ho, hc⟩
    · exact .inl h0
    · refine .inr ⟨b, off, ho, fun hb2 => ?_, hc.2.1, hc.2.2⟩
      have : K1 = [b] := by rw [h1.2, ho]
      exact n3 b (by simp [this]) b hb2 rfl
  · exact φ.mono (hf φ ee) ⟨rfl, rfl, rfl, Nat.le_refl _, fun _ _ _ => rfl, fun c hc => .inl (by simp [hc])⟩
/-- a block of cells just built is a slice of the call's own -/
theorem St.boxSl {b : Nat} {cs : List Value} (hsz : cs.length = n * size) (hm : n ≤ maxLen) (h : St w (Box b e cs :: M) F) : St w (OwnSl e size (some ⟨b, 0, none⟩) n n cs :: M) F :=
  h.turn rfl rfl rfl (Nat.le_refl _) fun K ⟨hK, hb⟩ => ⟨K, ⟨⟨hsz, .inr ⟨b, n, cs.toArray, rfl, Nat.zero_le _, hb, Nat.le_refl _, hm, by simpa using hsz, by simp [← hsz]⟩⟩, by simpa using hK⟩, by simp [hK], fun c hc => .inl hc, fun c _ _ => rfl⟩
end

section
variable {P : Program} {r : Option Nat} {N : Nat} {ops : Array Oper} {rest : List Oper} {Q : Exit → Act → World → Prop} {E : Env} {ds : List Deferred} {M : List HP} {F : List Fact}
variable {d : Nat} {ty : TypeId} {pos : String} {aft : Array Edge} {gd : Option (Nat × Bool)}
theorem RL.lenSlice {T e : TypeId} {x : Operand} {oa : Option Addr} {n cap : Nat} {aty : Array TypeId} (hg : wantedG ops E gd = some true) (ht : tySlice P T e = true) (hx : evalO E x = some (.slice oa n cap)) (hN : Nat.ble (d + 1) N = true) (k : RL P r N ops rest Q ((d, I n) :: E) ds M F) (hT : aty = #[T] := by rfl) : RL P r N ops (⟨some d, .call ⟨.builtin .len, #[x], aty⟩, ty, pos, aft, gd⟩ :: rest) Q E ds M F :=
  RL.val rfl hg hN (fun ρ hρ w _ => by
    subst hT
    simp [execOp, resolve, hρ _ _ hx, invoke, builtin, Builtin.len_, run_underlying (run_tySlice ht), goInt]) k
theorem RL.lenStr {T : TypeId} {x : Operand} {l : List UInt8} {aty : Array TypeId} (hg : wantedG ops E gd = some true) (ht : tyStr P T = true) (hx : evalO E x = some (S l)) (hN : Nat.ble (d + 1) N = true) (k : RL P r N ops rest Q ((d, I l.length) :: E) ds M F) (hT : aty = #[T] := by rfl) : RL P r N ops (⟨some d, .call ⟨.builtin .len, #[x], aty⟩, ty, pos, aft, gd⟩ :: rest) Q E ds M F :=
  RL.val rfl hg hN (fun ρ hρ w _ => by
    subst hT
    simp [execOp, resolve, hρ _ _ hx, invoke, builtin, Builtin.len_, run_underlying (tyStr_underlying ht), goInt, S_size]) k
theorem max_if (a b : Int) : (if b > a then b else a) = max a b := by rw [Int.max_def]; split <;> split <;> omega
theorem min_if (a b : Int) : (if b < a then b else a) = min a b := by rw [Int.min_def]; split <;> split <;> omega
theorem RL.max {x y : Operand} {k1 : IntKind} {a b : Int} {aty : Array TypeId} (hg : wantedG ops E gd = some true) (hx : evalO E x = some (.int k1 a)) (hy : evalO E y = some (.int k1 b)) (hN : Nat.ble (d + 1) N = true) (k : RL P r N ops rest Q ((d, .int k1 (max a b)) :: E) ds M F) : RL P r N ops (⟨some d, .call ⟨.builtin .max, #[x, y], aty⟩, ty, pos, aft, gd⟩ :: rest) Q E ds M F :=
  RL.val rfl hg hN (fun ρ hρ w _ => by
    simp [execOp, resolve, hρ _ _ hx, hρ _ _ hy, invoke, builtin, Builtin.max_, Builtin.max2, ← max_if]) k
theorem RL.min {x y : Operand} {k1 : IntKind} {a b : Int} {aty : Array TypeId} (hg : wantedG ops E gd = some true) (hx : evalO E x = some (.int k1 a)) (hy : evalO E y = some (.int k1 b)) (hN : Nat.ble (d + 1) N = true) (k : RL P r N ops rest Q ((d, .int k1 (min a b)) :: E) ds M F) : RL P r N ops (⟨some d, .call ⟨.builtin .min, #[x, y], aty⟩, ty, pos, aft, gd⟩ :: rest) Q E ds M F :=
  RL.val rfl hg hN (fun ρ hρ w _ => by
    simp [execOp, resolve, hρ _ _ hx, hρ _ _ hy, invoke, builtin, Builtin.min_, Builtin.min2, ← min_if]) k
theorem S_toList (l : List UInt8) : (⟨l.toArray⟩ : ByteArray).toList = l := by simp [Lib.toList_data]
theorem BinV.eqlS {t : TypeId} {a b : List UInt8} : BinV P .eql t (S a) (S b) (.bool (decide (a = b))) := ⟨fun w => by
  by_cases h : a = b <;> simp [binOp, Op.stringOp, h], fun _ _ _ => eqGuard_str _ _ _⟩
theorem BinV.neqS {t : TypeId} {a b : List UInt8} : BinV P .neq t (S a) (S b) (.bool (decide (a ≠ b))) := ⟨fun w => by
  by_cases h : a = b <;> simp [binOp, Op.stringOp, h], fun _ _ _ => eqGuard_str _ _ _⟩
theorem S_append (a b : List UInt8) : (⟨a.toArray⟩ : ByteArray) ++ ⟨b.toArray⟩ = ⟨(a ++ b).toArray⟩ := by
  apply ByteArray.ext
  simp
theorem BinV.addS {t : TypeId} {a b : List UInt8} (h : a.length + b.length ≤ 9223372036854775807) : BinV P .add t (S a) (S b) (S (a ++ b)) := ⟨fun w => by
  have : ¬ ((((⟨a.toArray⟩ : ByteArray).size + (⟨b.toArray⟩ : ByteArray).size : Nat) : Int) > IntKind.i64.max) := by
    rw [S_size, S_size]; simp [IntKind.max, IntKind.signed, IntKind.bits]; omega
  simp only [binOp, Op.stringOp, if_neg this, S_append]; rfl, fun _ _ _ => eqGuard_str _ _ _⟩
theorem equalIn_bool {w : World} (n : Nat) {t : TypeId} {a b : Bool} (h : P.underlying t = some .bool) : (Op.equalIn (n + 1) t (.bool a) (.bool b)).run P w = .ok (a == b) w := by simp [Op.equalIn, run_underlying h]
theorem equalIn_nilSlice {w : World} (n : Nat) {t e : TypeId} {oa : Option Addr} {l c : Nat} (h : P.underlying t = some (.slice e)) : (Op.equalIn (n + 1) t (.slice oa l c) (.slice none 0 0)).run P w = .ok oa.isNone w := by cases oa <;> simp [Op.equalIn, run_underlying h]
def tyBool (P : Program) (t : TypeId) : Bool := match P.underlying t with | some .bool => true | _ => false
theorem tyBool_underlying {t : TypeId} (h : tyBool P t = true) : P.underlying t = some .bool := by
  unfold tyBool at h
  split at h
  · rename_i he; exact he
  · cases h
theorem BinV.eqlB {t : TypeId} {a b : Bool} (h : tyBool P t = true) : BinV P .eql t (.bool a) (.bool b) (.bool (decide (a = b))) := ⟨fun w => by
  have : (a == b) = decide (a = b) := by cases a <;> cases b <;> rfl
  simp [binOp, Op.equal, Op.maxDepth, equalIn_bool 9999 (tyBool_underlying h), this], fun _ _ _ => eqGuard_bool _ _ _⟩
theorem BinV.neqB {t : TypeId} {a b : Bool} (h : tyBool P t = true) : BinV P .neq t (.bool a) (.bool b) (.bool (decide (a ≠ b))) := ⟨fun w => by
  cases a <;> cases b <;> simp [binOp, Op.equal, Op.maxDepth, equalIn_bool 9999 (tyBool_underlying h)], fun _ _ _ => eqGuard_bool _ _ _⟩
theorem BinV.eqlNil {t e : TypeId} {oa : Option Addr} {n c : Nat} (h : tySlice P t e = true) : BinV P .eql t (.slice oa n c) (.slice none 0 0) (.bool oa.isNone) := ⟨fun w => by
  simp [binOp, Op.equal, Op.maxDepth, equalIn_nilSlice 9999 (run_tySlice h)], fun _ _ _ => eqGuard_slice _ _ _⟩
theorem RL.indexS {T : TypeId} {x y : Operand} {l : List UInt8} {n : Int} {u : UInt8} (hg : wantedG ops E gd = some true) (ht : tyStr P T = true) (hx : evalO E x = some (S l)) (hy : evalO E y = some (I n)) (h0 : 0 ≤ n) (hu : l[n.toNat]? = some u) (hN : Nat.ble (d + 1) N = true) (k : RL P r N ops rest Q ((d, .int .u8 u.toNat) :: E) ds M F) : RL P r N ops (⟨some d, .index T x y, ty, pos, aft, gd⟩ :: rest) Q E ds M F :=
  RL.val rfl hg hN (fun ρ hρ w _ => by
    have hb : (⟨l.toArray⟩ : ByteArray)[n.toNat]? = some u := by
      have hlt := (List.getElem?_eq_some_iff.1 hu).1
      rw [getElem?_pos (⟨l.toArray⟩ : ByteArray) n.toNat (by rw [S_size]; exact hlt)]
      rw [List.getElem?_eq_getElem hlt] at hu
      exact hu
    simp [execOp, hρ _ _ hx, hρ _ _ hy, Instr.index, asIntOf, run_underlying (tyStr_underlying ht), h0, hb]) k
theorem RL.sliceS {T : TypeId} {x y z : Operand} {l : List UInt8} {i j : Int} (hg : wantedG ops E gd = some true) (ht : tyStr P T = true) (hx : evalO E x = some (S l)) (hy : evalO E y = some (I i)) (hz : evalO E z = some (I j)) (h0 : 0 ≤ i) (h1 : i ≤ j) (h2 : j ≤ l.length) (hN : Nat.ble (d + 1) N = true) (k : RL P r N ops rest Q ((d, S ((l.take j.toNat).drop i.toNat)) :: E) ds M F) : RL P r N ops (⟨some d, .slice T x (some y) (some z) none, ty, pos, aft, gd⟩ :: rest) Q E ds M F :=
  RL.val rfl hg hN (fun ρ hρ w _ => by
    have e : (⟨l.toArray⟩ : ByteArray).extract i.toNat j.toNat = ⟨((l.take j.toNat).drop i.toNat).toArray⟩ := by
      apply ByteArray.ext
      simp [ByteArray.data_extract, List.drop_take]
    have h3 : (0 : Int) ≤ j := by omega
    have h4 : ¬ Max.max j 0 < i := by omega
    simp [execOp, hρ _ _ hx, hρ _ _ hy, hρ _ _ hz, Instr.sliceAt, Instr.slice, Instr.sliceBounds, Instr.sliceBound, asIntOf, run_underlying (tyStr_underlying ht), S_size, h0, h2, h3, h4, e]) k
theorem RL.sliceSfrom {T : TypeId} {x y : Operand} {l : List UInt8} {i : Int} (hg : wantedG ops E gd = some true) (ht : tyStr P T = true) (hx : evalO E x = some (S l)) (hy : evalO E y = some (I i)) (h0 : 0 ≤ i) (h2 : i ≤ l.length) (hN : Nat.ble (d + 1) N = true) (k : RL P r N ops rest Q ((d, S (l.drop i.toNat)) :: E) ds M F) : RL P r N ops (⟨some d, .slice T x (some y) none none, ty, pos, aft, gd⟩ :: rest) Q E ds M F :=
  RL.val rfl hg hN (fun ρ hρ w _ => by
    have e : (⟨l.toArray⟩ : ByteArray).extract i.toNat l.length = ⟨(l.drop i.toNat).toArray⟩ := by
      apply ByteArray.ext
      simp [ByteArray.data_extract]
      exact List.take_of_length_le (by simp)
    simp [execOp, hρ _ _ hx, hρ _ _ hy, Instr.sliceAt, Instr.slice, Instr.sliceBounds, Instr.sliceBound, asIntOf, run_underlying (tyStr_underlying ht), S_size, h0, h2, e]) k
theorem RL.sliceSto {T : TypeId} {x z : Operand} {l : List UInt8} {j : Int} (hg : wantedG ops E gd = some true) (ht : tyStr P T = true) (hx : evalO E x = some (S l)) (hz : evalO E z = some (I j)) (h0 : 0 ≤ j) (h2 : j ≤ l.length) (hN : Nat.ble (d + 1) N = true) (k : RL P r N ops rest Q ((d, S (l.take j.toNat)) :: E) ds M F) : RL P r N ops (⟨some d, .slice T x none (some z) none, ty, pos, aft, gd⟩ :: rest) Q E ds M F :=
  RL.val rfl hg hN (fun ρ hρ w _ => by
    have e : (⟨l.toArray⟩ : ByteArray).extract 0 j.toNat = ⟨(l.take j.toNat).toArray⟩ := by
      apply ByteArray.ext
      simp [ByteArray.data_extract]
    simp [execOp, hρ _ _ hx, hρ _ _ hz, Instr.sliceAt, Instr.slice, Instr.sliceBounds, Instr.sliceBound, asIntOf, run_underlying (tyStr_underlying ht), S_size, h0, h2, e]) k
/-- where a cut of a slice begins -/
def cutA (oa : Option Addr) (l cap size : Nat) : Option Addr := if cap = l then oa else oa.map (·.add (l * size))
theorem RL.sliceLH {T e : TypeId} {x : Operand} {lo hi : Option Operand} {oa : Option Addr} {n cap size l h : Nat} (hg : wantedG ops E gd = some true) (ht : tySlice P T e = true) (hz : tySize P e size = true) (hx : evalO E x = some (.slice oa n cap))
    (hlo : (lo = none ∧ l = 0) ∨ ∃ o, lo = some o ∧ evalO E o = some (I l)) (hhi : (hi = none ∧ h = n) ∨ ∃ o, hi = some o ∧ evalO E o = some (I h)) (h1 : l ≤ h) (h2 : h ≤ cap) (hN : Nat.ble (d + 1) N = true) (k : RL P r N ops rest Q ((d, .slice (cutA oa l cap size) (h - l) (cap - l)) :: E) ds M F) : RL P r N ops (⟨some d, .slice T x lo hi none, ty, pos, aft, gd⟩ :: rest) Q E ds M F :=
  RL.val rfl hg hN (fun ρ hρ w _ => by
    have h3 : ¬ cap < h := by omega
    have h4 : ¬ h < l := by omega
    rcases hlo with ⟨rfl, rfl⟩ | ⟨o, rfl, ho⟩ <;> rcases hhi with ⟨rfl, rfl⟩ | ⟨o', rfl, ho'⟩
    · simp [execOp, hρ _ _ hx, Instr.sliceAt, Instr.slice, Instr.sliceBounds, run_underlying (run_tySlice ht), run_sizeOf' hz, cutA]
    · simp [execOp, hρ _ _ hx, hρ _ _ ho', Instr.sliceAt, Instr.slice, Instr.sliceBounds, Instr.sliceBound, asIntOf, run_underlying (run_tySlice ht), run_sizeOf' hz, h3, cutA]
    · simp [execOp, hρ _ _ hx, hρ _ _ ho, Instr.sliceAt, Instr.slice, Instr.sliceBounds, Instr.sliceBound, asIntOf, run_underlying (run_tySlice ht), run_sizeOf' hz, h4, cutA]
    · simp [execOp, hρ _ _ hx, hρ _ _ ho, hρ _ _ ho', Instr.sliceAt, Instr.slice, Instr.sliceBounds, Instr.sliceBound, asIntOf, run_underlying (run_tySlice ht), run_sizeOf' hz, h1, h2, cutA]) k
theorem ArrAt.cut {w : World} {K : List Nat} {oa : Option Addr} {xs : List Value} {n cap size : Nat} (h : ArrAt w K oa xs) (l h' : Nat) (hx : xs.length = n * size) (h2 : h' ≤ n) (h3 : n ≤ cap) :
    ArrAt w K (cutA oa l cap size) ((xs.take (h' * size)).drop (l * size)) := by
  by_cases h0 : (xs.take (h' * size)).drop (l * size) = []
  · exact .inl h0
  · rcases h with rfl | ⟨b, off, rfl, hc⟩
    · simp at h0
    · have hlt : l * size < h' * size := by
        rcases Nat.lt_or_ge (l * size) (h' * size) with h | h
        · exact h
        · exact absurd (List.drop_of_length_le (by rw [List.length_take]; omega)) h0
      have hlh : l < h' := Nat.lt_of_mul_lt_mul_right hlt
      refine .inr ⟨b, off + l * size, ?_, hc.1, hc.2.1, fun j v hv => ?_⟩
      · unfold cutA
        rw [if_neg (by omega)]
        simp [addr_add]
      · rw [List.getElem?_drop, List.getElem?_take] at hv
        split at hv
        · rw [Nat.add_assoc]; exact hc.2.2 _ v hv
        · cases hv

/-! ### Built -/
/-- a struct's value out of its parts -/
def BuildV (P : Program) (t : TypeId) (parts : List (Nat × Value)) (v : Value) : Prop := ∀ w, (Instr.build t parts.toArray).run P w = .ok v w
def evalParts (E : Env) : List (Nat × Operand) → Option (List (Nat × Value))
  | [] => some []
  | (i, o) :: ps => match evalO E o, evalParts E ps with
    | some v, some vs => some ((i, v) :: vs)
    | _, _ => none
theorem evalParts_map {ρ : Operand → Value} (hρ : ∀ x u, evalO E x = some u → ρ x = u) : ∀ {ps : List (Nat × Operand)} {vs : List (Nat × Value)}, evalParts E ps = some vs → ps.map (fun x => (x.1, ρ x.2)) = vs
  | [], vs, h => by simpa [evalParts] using h
  | (i, o) :: ps, vs, h => by
    simp only [evalParts] at h
    cases h1 : evalO E o with
    | none => rw [h1] at h; cases h
    | some v =>
      cases h2 : evalParts E ps with
      | none => rw [h1, h2] at h; cases h
      | some us =>
        rw [h1, h2] at h
        simp at h
        subst h
        simp [hρ _ _ h1, evalParts_map hρ h2]
theorem RL.build {T : TypeId} {ps : List (Nat × Operand)} {vs : List (Nat × Value)} {v : Value} (hg : wantedG ops E gd = some true) (hp : evalParts E ps = some vs) (hb : BuildV P T vs v) (hN : Nat.ble (d + 1) N = true) (k : RL P r N ops rest Q ((d, v) :: E) ds M F) : RL P r N ops (⟨some d, .build T ps.toArray, ty, pos, aft, gd⟩ :: rest) Q E ds M F :=
  RL.val rfl hg hN (fun ρ hρ w _ => by
    have := hb w
    simp [execOp, evalParts_map hρ hp, this]) k
/-- a slice literal: its cells -/
def BuildSV (P : Program) (t e : TypeId) (len : Nat) (parts : List (Nat × Value)) (cs : List Value) : Prop := ∀ w, (Instr.buildSlice t len parts.toArray).run P w = .ok (.slice (some ⟨w.heap.size, 0, none⟩) len len) (w.alloc (.cells cs.toArray e))
theorem RL.buildSlice {T e : TypeId} {len : Nat} {ps : List (Nat × Operand)} {vs : List (Nat × Value)} {cs : List Value} (hg : wantedG ops E gd = some true) (hp : evalParts E ps = some vs) (hb : BuildSV P T e len vs cs) (hN : Nat.ble (d + 1) N = true) (k : ∀ b, RL P r N ops rest Q ((d, .slice (some ⟨b, 0, none⟩) len len) :: E) ds (Box b e cs :: M) F) : RL P r N ops (⟨some d, .buildSlice T len ps.toArray, ty, pos, aft, gd⟩ :: rest) Q E ds M F :=
  RL.gen (ι := Nat) (val := fun b => .slice (some ⟨b, 0, none⟩) len len) (M' := fun b => Box b e cs :: M) (F' := fun _ => F) rfl hg hN (fun ρ hρ w hw =>
    ⟨w.heap.size, _, by simp [execOp, evalParts_map hρ hp, hb w], hw.alloc _⟩) k
end
end Go.GL
