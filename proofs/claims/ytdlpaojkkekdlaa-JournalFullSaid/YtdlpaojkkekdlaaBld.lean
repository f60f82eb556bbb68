/- The library's Builder: pointers turned and compared, bytes made a text. No condition; over every program. -/
import Derived.Test.YtdlpaojkkekdlaaOwn
import Derived.Lib.Builder
import Derived.Lib.UnsafeStr
import Derived.Laws.Pointers
namespace Go.GL
/-- nothing -/
def Emp : HP := ⟨fun _ K => K = [], fun h _ => h, fun h b hb => by rw [h] at hb; cases hb⟩
/-- a Builder in a block of its own, of type T, of bytes of type e -/
def Bld (T e b : Nat) (l : List UInt8) : HP := Ex (ι := Bool × Option Addr × Nat) fun i => [Box b T [.pointer (if i.1 then some ⟨b, 0, none⟩ else none), .slice i.2.1 l.length i.2.2], OwnSl e 1 i.2.1 l.length i.2.2 (bytesV l)]
theorem bytesV_append (a b : List UInt8) : bytesV (a ++ b) = bytesV a ++ bytesV b := by simp [bytesV]
theorem bytesV_one (l : List UInt8) : (bytesV l).all Value.oneCell' = true := by
  unfold bytesV
  simp [Value.oneCell']
theorem St.bldNew {w : World} {M : List HP} {F : List Fact} {T e b : Nat} (h : St w (Box b T [.pointer none, .slice none 0 0] :: M) F) : St w (Bld T e b [] :: M) F :=
  St.exClose (false, none, 0) ((OwnSl.nil_new e 1 h).swap)
def tyPtr (P : Program) (t u : Nat) : Bool := match P.underlying t with | some (.pointer v) => Nat.beq v u | _ => false
theorem tyPtr_is {P : Program} {t u : Nat} (h : tyPtr P t u = true) : P.underlying t = some (.pointer u) := by
  unfold tyPtr at h
  split at h
  · rename_i v he; rw [he, Nat.eq_of_beq_eq_true h]
  · cases h
def tyUns (P : Program) (t : Nat) : Bool := match P.underlying t with | some .unsafePointer => true | _ => false
theorem tyUns_is {P : Program} {t : Nat} (h : tyUns P t = true) : P.underlying t = some .unsafePointer := by
  unfold tyUns at h
  split at h
  · rename_i he; exact he
  · cases h
theorem BinV.eqlPtrNil {P : Program} {t u : Nat} {p : Option Addr} (h : tyPtr P t u = true) : BinV P .eql t (.pointer p) (.pointer none) (.bool p.isNone) := ⟨fun w => by
  have h1 := tyPtr_is h
  exact run_eql_pointer_nil w t p (by rw [Program.pointee, h1]), fun _ _ _ => eqGuard_ptr _ _ _⟩
theorem BinV.neqPtrNil {P : Program} {t u : Nat} {p : Option Addr} (h : tyPtr P t u = true) : BinV P .neq t (.pointer p) (.pointer none) (.bool (!p.isNone)) := ⟨fun w => by
  have h1 := tyPtr_is h
  exact run_neq_pointer_nil w t p (by rw [Program.pointee, h1]), fun _ _ _ => eqGuard_ptr _ _ _⟩
theorem BinV.neqPtrSame {P : Program} {t u n : Nat} {a : Addr} (h : tyPtr P t u = true) (hs : tySize P u n = true) : BinV P .neq t (.pointer (some a)) (.pointer (some a)) (.bool false) := ⟨fun w => by
  have h1 := tyPtr_is h
  unfold tySize at hs
  cases hi : P.info? u with
  | none => rw [hi] at hs; cases hs
  | some j => exact Lib.run_neq_ptr_same w a h1 hi, fun _ _ _ => eqGuard_ptr _ _ _⟩
section
variable {P : Program} {r : Option Nat} {N : Nat} {ops : Array Oper} {rest : List Oper} {Q : Exit → Act → World → Prop} {E : Env} {ds : List Deferred} {M : List HP} {F : List Fact}
variable {d : Nat} {ty : TypeId} {pos : String} {aft : Array Edge} {gd : Option (Nat × Bool)}
theorem box_shape {w : World} {b t i : Nat} {cs : List Value} (hw : St w M F) (hi : M[i]? = some (Box b t cs)) : w.shape? b = some (t, cs.length) := by
  have := hw.heap hi
  simp [World.shape?, this]
theorem RL.toUnsafe {s t u n b bt : Nat} {cs : List Value} {x : Operand} (i : Nat) (hg : wantedG ops E gd = some true) (hs : tyPtr P s u = true) (hz : tySize P u n = true) (hn : Nat.ble 1 n = true) (ht : tyUns P t = true) (hx : evalO E x = some (.pointer (some ⟨b, 0, none⟩))) (hi : M[i]? = some (Box b bt cs)) (hc : Nat.ble 1 cs.length = true) (hN : Nat.ble (d + 1) N = true)
    (k : RL P r N ops rest Q ((d, .pointer (some ⟨b, 0, none⟩)) :: E) ds M F) : RL P r N ops (⟨some d, .convert s t x, ty, pos, aft, gd⟩ :: rest) Q E ds M F :=
  RL.val rfl hg hN (fun ρ hρ w hw => by
    unfold tySize at hz
    cases hi2 : P.info? u with
    | none => rw [hi2] at hz; cases hz
    | some j =>
      rw [hi2] at hz
      have hj : j.size = n := by simpa using hz
      have := Lib.run_to_unsafe w ⟨b, 0, none⟩ (tyPtr_is hs) (tyUns_is ht) hi2 (by rw [hj]; have := Nat.le_of_ble_eq_true hn; omega) (box_shape hw hi) (Nat.le_of_ble_eq_true hc)
      simp [execOp, hρ _ _ hx, this]) k
theorem RL.fromUnsafe {s t u n b bt : Nat} {cs : List Value} {x : Operand} (i : Nat) (hg : wantedG ops E gd = some true) (hs : tyUns P s = true) (hz : tySize P u n = true) (ht : tyPtr P t u = true) (hx : evalO E x = some (.pointer (some ⟨b, 0, none⟩))) (hi : M[i]? = some (Box b bt cs)) (hl : liesAt P P.depth bt (cs.length / P.cellsOf bt) 0 u 1 = true) (hN : Nat.ble (d + 1) N = true)
    (k : RL P r N ops rest Q ((d, .pointer (some ⟨b, 0, none⟩)) :: E) ds M F) : RL P r N ops (⟨some d, .convert s t x, ty, pos, aft, gd⟩ :: rest) Q E ds M F :=
  RL.val rfl hg hN (fun ρ hρ w hw => by
    unfold tySize at hz
    cases hi2 : P.info? u with
    | none => rw [hi2] at hz; cases hz
    | some j =>
      have := Lib.run_from_unsafe w ⟨b, 0, none⟩ (tyUns_is hs) (tyPtr_is ht) hi2 (box_shape hw hi) hl
      simp [execOp, hρ _ _ hx, this]) k
/-- a call that answers out of hand -/
theorem RL.callX {f : FuncId} {as : List Operand} {ats : Array TypeId} {vs : List Value} {v : Value} (hg : wantedG ops E gd = some true) (ha : evalArgs E as = some vs) (hcall : ∀ w, (callFunc f vs.toArray).run P w = .ok (.value v) w) (hN : Nat.ble (d + 1) N = true)
    (k : RL P r N ops rest Q ((d, v) :: E) ds M F) : RL P r N ops (⟨some d, .call ⟨.value (.func f), as.toArray, ats⟩, ty, pos, aft, gd⟩ :: rest) Q E ds M F :=
  RL.val rfl hg hN (fun ρ hρ w _ => by
    have h1 := hρ (.func f) (.func (.func f) #[] #[]) rfl
    have h2 := args_of hρ ha
    have h3 := hcall w
    simp [execOp, resolve, h1, h2, Deferred.ofValue, invoke, h3]) k
theorem GV.sliceData {x : Operand} {T n cap : Nat} {oa : Option Addr} {e : Nat} {bytes : List Value} {j : Nat} (hty : tyPtr P ty e = true) (hx : evalO E x = some (.slice oa n cap)) (hj : M[j]? = some (OwnSl e 1 oa n cap bytes)) :
    GV P E M F ⟨some d, .call ⟨.builtin .unsafeSliceData, #[x], #[T]⟩, ty, pos, aft, gd⟩ {p : Option Addr // n ≠ 0 → p = oa} (fun p => .pointer p.1) (fun _ => M) (fun _ => F) := ⟨rfl, fun ρ hρ w hw => by
  have hf := hw.front hj
  obtain ⟨K, ⟨K1, K2, _, h1, _⟩, _⟩ := hf
  rcases h1.1.2 with ⟨hv, h0⟩ | ⟨g, c, cur, hv, hb, hg, hc, hm, hs, ht⟩
  · simp only [Value.slice.injEq] at hv
    obtain ⟨rfl, rfl, rfl⟩ := hv
    exact ⟨⟨none, fun _ => rfl⟩, w, by simp [execOp, resolve, hρ _ _ hx, invoke, builtin, Lib.run_unsafeSliceData_nil], hw⟩
  · simp only [Value.slice.injEq] at hv
    obtain ⟨rfl, _, rfl⟩ := hv
    by_cases h0 : cap = 0
    · subst h0
      have := Lib.run_unsafeSliceData_zero (P := P) w #[T] ty e (tyPtr_is hty) ⟨g, 0, none⟩ n (e, cur.size) (by simp [World.shape?, hg])
      refine ⟨⟨some ⟨w.heap.size, 0, none⟩, fun h => by omega⟩, w.alloc (.view ⟨g, 0, none⟩ e), by simp [execOp, resolve, hρ _ _ hx, invoke, builtin, this], (hw.alloc _).tail⟩
    · exact ⟨⟨some ⟨g, 0, none⟩, fun _ => rfl⟩, w, by simp [execOp, resolve, hρ _ _ hx, invoke, builtin, Lib.run_unsafeSliceData_row _ _ _ _ _ _ h0], hw⟩⟩
theorem freeze_other {w : World} {a : Addr} {n c : Nat} (h : c ≠ a.block) : (w.freeze a n).heap[c]? = w.heap[c]? := by
  unfold World.freeze
  split
  · rfl
  · have h2 : ¬ a.block = c := fun e => h e.symm
    rw [Array.getElem?_modify, if_neg h2]
theorem freeze_size {w : World} {a : Addr} {n : Nat} : (w.freeze a n).heap.size = w.heap.size := by
  unfold World.freeze
  split <;> simp
theorem freeze_rest {w : World} {a : Addr} {n : Nat} : (w.freeze a n).os = w.os ∧ (w.freeze a n).tape = w.tape ∧ (w.freeze a n).output = w.output := by
  unfold World.freeze
  split <;> exact ⟨rfl, rfl, rfl⟩
theorem GV.unsafeString {x y : Operand} {T U cap e j : Nat} {p oa : Option Addr} {l : List UInt8} (hT : tyPtr P T e = true) (hc : Nat.beq (P.cellsOf e) 1 = true) (hx : evalO E x = some (.pointer p)) (hy : evalO E y = some (I l.length)) (hp : l.length ≠ 0 → p = oa) (h63 : l.length ≤ 9223372036854775807) (hj : M[j]? = some (OwnSl e 1 oa l.length cap (bytesV l))) :
    GV P E M F ⟨some d, .call ⟨.builtin .unsafeString, #[x, y], #[T, U]⟩, ty, pos, aft, gd⟩ Unit (fun _ => S l) (fun _ => M.set j Emp) (fun _ => F) := ⟨rfl, fun ρ hρ w hw => by
  have hf := hw.front hj
  by_cases h0 : l = []
  · subst h0
    have := Lib.run_unsafeString_none (P := P) w T U ty p
    refine ⟨(), w, by
      have e0 : (I (([] : List UInt8).length : Nat)) = .int .i64 0 := rfl
      rw [e0] at hy
      simp [execOp, resolve, hρ _ _ hx, hρ _ _ hy, invoke, builtin, this]
      rfl, St.back hj (hf.turn rfl rfl rfl (Nat.le_refl _) fun K hK => ⟨[], rfl, List.nodup_nil, fun b hb => (by cases hb), fun _ _ _ => rfl⟩)⟩
  · have hl0 : l.length ≠ 0 := fun h => h0 (List.eq_nil_of_length_eq_zero h)
    have hpo := hp hl0
    obtain ⟨K, ⟨K1, K2, _, h1, _⟩, _⟩ := hf
    rcases h1.1.2 with ⟨hv, hh⟩ | ⟨g, c, cur, hv, hb, hg, hc2, hm, hs, ht⟩
    · exact absurd hh hl0
    · simp only [Value.slice.injEq] at hv
      obtain ⟨rfl, _, rfl⟩ := hv
      subst hpo
      have hcell : ∀ i u, l[i]? = some u → w.cell? ((⟨g, 0, none⟩ : Addr).add i) = some (.int .u8 u.toNat) := by
        intro i u hi
        rw [addr_add, Nat.zero_add]
        exact own_cell hw hj rfl (by unfold bytesV; simp [hi])
      have := Lib.run_unsafeString_row (P := P) w T U ty e (tyPtr_is hT) (Nat.eq_of_beq_eq_true hc) g cur.size (by simp [World.shape?, hg]) l h0 (by omega) h63 hcell
      refine ⟨(), w.freeze ⟨g, 0, none⟩ l.length, by simp [execOp, resolve, hρ _ _ hx, hρ _ _ hy, invoke, builtin, this], St.back hj ((hw.front hj).turn freeze_rest.1 freeze_rest.2.1 freeze_rest.2.2 (by rw [freeze_size]; exact Nat.le_refl _) fun K hK => ⟨[], rfl, List.nodup_nil, fun b hb => (by cases hb), fun b _ hb => freeze_other (fun ee => hb (by rw [hK.2]; simp [ee]))⟩)⟩⟩
end
theorem Ctr.frame0 {P : Program} {f : FuncId} {args : List Value} {F : List Fact} {ι : Type} {val : ι → Value} {F' : ι → List Fact} (L : List HP) {p : HP} {Mi : List HP}
    (h : Ctr P f args (p :: (L ++ Mi)) F ι val (fun _ => L ++ Mi) F') : Ctr P f args (L ++ p :: Mi) F ι val (fun _ => L ++ Mi) F' :=
  Ctr.frame (J := [p]) (J' := fun _ => []) L h
theorem BinV.to {P : Program} {op : BinOp} {t : TypeId} {a b : Value} {c d : Bool} (h : BinV P op t a b (.bool c)) (e : c = d) : BinV P op t a b (.bool d) := e ▸ h
theorem St.boxArr {w : World} {M : List HP} {F : List Fact} {b t : Nat} {cs : List Value} (h : St w (Box b t cs :: M) F) : St w M (ArrF (some ⟨b, 0, none⟩) cs :: F) := by
  obtain ⟨K, ho, hn, hf⟩ := h.keep
  refine ⟨K, ho, hn, fun φ hφ => ?_⟩
  rcases List.mem_cons.1 hφ with e | e
  · subst e; exact .inr ⟨b, 0, rfl, hf _ (.head _)⟩
  · exact hf φ (.tail _ e)
end Go.GL
