/- Lemmas and walks for the proof of PositionsJ: texts one behind the other. No condition. -/
import Derived.Laws.BitsAllLaws
import Derived.Laws.BytesArg
import Derived.Lib.ConvBytes
import Derived.ProofKit
import Derived.OpenShut
import Derived.CallsIn
import Derived.DataReads
import Derived.ChangeArms
import Derived.Carry
import Derived.Test.YtkdeopioelocnaaRows
import Derived.Test.YtkdeopioelocnaaChecked
import Derived.RangeFuncNested
import Derived.Test.YtkdeopioelocnaaPsxa
set_option linter.unusedVariables false
set_option linter.unusedSimpArgs false
namespace Go.GL
abbrev U (n : Nat) : Value := .int .u64 (n : Int)
abbrev B8 (n : Nat) : Value := .int .u8 (n : Int)
theorem wrap_u64 (n : Nat) : IntKind.u64.wrap (n : Int) = ((n % 18446744073709551616 : Nat) : Int) := by
  simp [IntKind.wrap, IntKind.bits, IntKind.signed]
theorem wrap_u64i (n : Int) : IntKind.u64.wrap n = n % 18446744073709551616 := by
  simp [IntKind.wrap, IntKind.bits, IntKind.signed]
theorem wrap_u8 (n : Nat) : IntKind.u8.wrap (n : Int) = ((n % 256 : Nat) : Int) := by
  simp [IntKind.wrap, IntKind.bits, IntKind.signed]
theorem wrap_u64_id {n : Nat} (h : n < 18446744073709551616) : IntKind.u64.wrap (n : Int) = (n : Int) := by rw [wrap_u64, Nat.mod_eq_of_lt h]
section
variable {P : Program} {t : TypeId} {a b : Nat}
theorem BinV.bitsK {op : BinOp} {k : IntKind} {x y : Int} (ho : op = .and ∨ op = .or ∨ op = .xor ∨ op = .andNot) : BinV P op t (.int k x) (.int k y) (.int k (bits op k x y)) := ⟨fun w => by
  rcases ho with rfl | rfl | rfl | rfl <;> simp [binOp, Op.intBits, bits], fun _ _ _ => eqGuard_int _ _ _⟩
theorem BinV.orU (ha : a < 18446744073709551616) (hb : b < 18446744073709551616) : BinV P .or t (U a) (U b) (U (a ||| b)) := by
  have h := BinV.bitsK (P := P) (t := t) (op := .or) (k := .u64) (x := (a : Int)) (y := (b : Int)) (by simp)
  rwa [u64_or_nat a b ha hb] at h
theorem BinV.xorU (ha : a < 18446744073709551616) (hb : b < 18446744073709551616) : BinV P .xor t (U a) (U b) (U (a ^^^ b)) := by
  have h := BinV.bitsK (P := P) (t := t) (op := .xor) (k := .u64) (x := (a : Int)) (y := (b : Int)) (by simp)
  rwa [u64_xor_nat a b ha hb] at h
theorem BinV.andU (ha : a < 18446744073709551616) (hb : b < 18446744073709551616) : BinV P .and t (U a) (U b) (U (a &&& b)) := by
  have h := BinV.bitsK (P := P) (t := t) (op := .and) (k := .u64) (x := (a : Int)) (y := (b : Int)) (by simp)
  rwa [u64_and_nat a b ha hb] at h
theorem BinV.orB (ha : a < 256) (hb : b < 256) : BinV P .or t (B8 a) (B8 b) (B8 (a ||| b)) := by
  have h := BinV.bitsK (P := P) (t := t) (op := .or) (k := .u8) (x := (a : Int)) (y := (b : Int)) (by simp)
  rwa [u8_or_nat a b ha hb] at h
theorem BinV.xorB (ha : a < 256) (hb : b < 256) : BinV P .xor t (B8 a) (B8 b) (B8 (a ^^^ b)) := by
  have h := BinV.bitsK (P := P) (t := t) (op := .xor) (k := .u8) (x := (a : Int)) (y := (b : Int)) (by simp)
  rwa [u8_xor_nat a b ha hb] at h
theorem BinV.clear7 (ha : a < 256) : BinV P .andNot t (B8 a) (.int .u8 128) (B8 (a % 128)) := by
  have h := BinV.bitsK (P := P) (t := t) (op := .andNot) (k := .u8) (x := (a : Int)) (y := ((128 : Nat) : Int)) (by simp)
  rw [u8_andNot_nat a 128 ha (by omega), show a &&& (255 - 128) = a % 128 from Nat.and_two_pow_sub_one_eq_mod a 7] at h
  exact h
theorem BinV.shl {k yk : IntKind} {x : Int} {s : Nat} (hs : s ≤ k.bits) : BinV P .shl t (.int k x) (.int yk (s : Int)) (.int k (k.wrap (x * 2 ^ s))) := ⟨fun w => by
  have h1 : ¬ ((s : Int) < 0) := by omega
  simp only [binOp, Op.shift, if_neg h1, Int.toNat_natCast, Nat.min_eq_left hs]; rfl, fun _ _ _ => eqGuard_int _ _ _⟩
theorem BinV.shr {k yk : IntKind} {x : Int} {s : Nat} (hs : s ≤ k.bits) : BinV P .shr t (.int k x) (.int yk (s : Int)) (.int k (x.fdiv (2 ^ s))) := ⟨fun w => by
  have h1 : ¬ ((s : Int) < 0) := by omega
  simp only [binOp, Op.shift, if_neg h1, Int.toNat_natCast, Nat.min_eq_left hs]; rfl, fun _ _ _ => eqGuard_int _ _ _⟩
theorem BinV.shlU {yk : IntKind} {s : Nat} (hs : s ≤ 64) : BinV P .shl t (U a) (.int yk (s : Int)) (U (a * 2 ^ s % 18446744073709551616)) := by
  have h := BinV.shl (P := P) (t := t) (k := .u64) (yk := yk) (x := (a : Int)) (s := s) hs
  rw [show ((a : Int) * 2 ^ s) = ((a * 2 ^ s : Nat) : Int) from by push_cast; rfl, wrap_u64] at h
  exact h
theorem BinV.shlB {yk : IntKind} {s : Nat} (hs : s ≤ 8) : BinV P .shl t (B8 a) (.int yk (s : Int)) (B8 (a * 2 ^ s % 256)) := by
  have h := BinV.shl (P := P) (t := t) (k := .u8) (yk := yk) (x := (a : Int)) (s := s) hs
  rw [show ((a : Int) * 2 ^ s) = ((a * 2 ^ s : Nat) : Int) from by push_cast; rfl, wrap_u8] at h
  exact h
theorem BinV.shrU {yk : IntKind} {s : Nat} (hs : s ≤ 64) : BinV P .shr t (U a) (.int yk (s : Int)) (U (a / 2 ^ s)) := by
  have h := BinV.shr (P := P) (t := t) (k := .u64) (yk := yk) (x := (a : Int)) (s := s) hs
  rw [show (a : Int).fdiv (2 ^ s) = ((a / 2 ^ s : Nat) : Int) from by
    rw [Int.fdiv_eq_ediv_of_nonneg _ (by exact_mod_cast Nat.zero_le _)]; push_cast; rfl] at h
  exact h
theorem BinV.addU (h : a + b < 18446744073709551616) : BinV P .add t (U a) (U b) (U (a + b)) := by
  have h1 := BinV.addW (P := P) (t := t) (k := .u64) (x := (a : Int)) (y := (b : Int))
  rw [← Int.natCast_add, wrap_u64_id h] at h1
  exact h1
theorem BinV.addUw : BinV P .add t (U a) (U b) (U ((a + b) % 18446744073709551616)) := by
  have h1 := BinV.addW (P := P) (t := t) (k := .u64) (x := (a : Int)) (y := (b : Int))
  rw [← Int.natCast_add, wrap_u64] at h1
  exact h1
theorem BinV.mulUw : BinV P .mul t (U a) (U b) (U (a * b % 18446744073709551616)) := by
  have h1 := BinV.mulW (P := P) (t := t) (k := .u64) (x := (a : Int)) (y := (b : Int))
  rw [← Int.natCast_mul, wrap_u64] at h1
  exact h1
theorem BinV.mulU (h : a * b < 18446744073709551616) : BinV P .mul t (U a) (U b) (U (a * b)) := by
  have h1 := BinV.mulUw (P := P) (t := t) (a := a) (b := b)
  rwa [Nat.mod_eq_of_lt h] at h1
theorem BinV.remK {k : IntKind} (hb : b ≠ 0) : BinV P .rem t (.int k (a : Int)) (.int k (b : Int)) (.int k ((a % b : Nat) : Int)) := by
  have h1 := BinV.rem (P := P) (t := t) (k := k) (x := (a : Int)) (y := (b : Int)) (by omega)
  rw [show (a : Int).tmod (b : Int) = ((a % b : Nat) : Int) from by rw [Int.tmod_eq_emod_of_nonneg (by omega)]; rfl] at h1
  exact h1
theorem BinV.quoU (ha : a < 18446744073709551616) (hb : b ≠ 0) : BinV P .quo t (U a) (U b) (U (a / b)) := ⟨fun w => by
  have h0 : ¬ ((b : Int) = 0) := by omega
  have e : (a : Int).tdiv (b : Int) = ((a / b : Nat) : Int) := by rw [Int.tdiv_eq_ediv_of_nonneg (by omega)]; rfl
  have hl : a / b < 18446744073709551616 := Nat.lt_of_le_of_lt (Nat.div_le_self a b) ha
  simp only [binOp, Op.intDiv, ne_eq, not_true_eq_false, if_false, if_neg h0, e]
  rw [wrap_u64_id hl]; rfl, fun _ _ _ => eqGuard_int _ _ _⟩
theorem BinV.xorI {k : IntKind} {x y : Int} : BinV P .xor t (.int k x) (.int k y) (.int k (k.wrap ((BitVec.ofInt k.bits x ^^^ BitVec.ofInt k.bits y).toNat : Nat))) := ⟨fun w => by
  simp only [binOp, Op.intBits, ne_eq, not_true_eq_false, if_false]; rfl, fun _ _ _ => eqGuard_int _ _ _⟩
end
theorem xor_ones {a : Nat} (ha : a < 18446744073709551616) : a ^^^ 18446744073709551615 = 18446744073709551615 - a := by
  have h := BitVec.toNat_not (x := BitVec.ofNat 64 a)
  have e : (~~~(BitVec.ofNat 64 a)).toNat = a ^^^ 18446744073709551615 := by
    rw [← BitVec.xor_allOnes]
    rw [BitVec.toNat_xor, BitVec.toNat_ofNat, BitVec.toNat_allOnes, Nat.mod_eq_of_lt ha]
  rw [← e, h, BitVec.toNat_ofNat, Nat.mod_eq_of_lt ha]
/-! ### Conversions -/
def tyInt (P : Program) (t : TypeId) (k : IntKind) : Bool := match P.underlying t with | some (.int k') => k' == k | _ => false
theorem tyInt_is {P : Program} {t : TypeId} {k : IntKind} (h : tyInt P t k = true) : P.underlying t = some (.int k) := by
  unfold tyInt at h
  split at h
  · rename_i k' he; rw [he, eq_of_beq h]
  · cases h
def ConvV (P : Program) (s t : TypeId) (v v' : Value) : Prop := ∀ w, (convert s t v).run P w = .ok v' w
section
variable {P : Program} {s t : TypeId} {k j : IntKind} {n : Int}
theorem ConvV.int (hs : tyInt P s k = true) (ht : tyInt P t j = true) : ConvV P s t (.int k n) (.int j (j.wrap n)) := fun w => by
  simp [convert, run_underlying (tyInt_is hs), run_underlying (tyInt_is ht), Conv.intToInt]
theorem ConvV.to {v v' v'' : Value} (h : ConvV P s t v v') (e : v' = v'') : ConvV P s t v v'' := e ▸ h
theorem ConvV.iu {n : Nat} (hs : tyInt P s .i64 = true) (ht : tyInt P t .u64 = true) (h : n < 18446744073709551616) : ConvV P s t (I (n : Int)) (U n) := (ConvV.int hs ht).to (by rw [wrap_u64_id h])
theorem ConvV.iuz {n : Int} (hs : tyInt P s .i64 = true) (ht : tyInt P t .u64 = true) (h0 : 0 ≤ n) (h : n < 18446744073709551616) : ConvV P s t (I n) (U n.toNat) := (ConvV.int hs ht).to (by
  show Value.int .u64 _ = Value.int .u64 ((n.toNat : Nat) : Int)
  rw [wrap_u64i, Int.toNat_of_nonneg h0, Int.emod_eq_of_lt h0 h])
theorem ConvV.ub {n : Nat} (hs : tyInt P s .u64 = true) (ht : tyInt P t .u8 = true) : ConvV P s t (U n) (B8 (n % 256)) := (ConvV.int hs ht).to (by rw [wrap_u8])
theorem ConvV.bu {n : Nat} (hs : tyInt P s .u8 = true) (ht : tyInt P t .u64 = true) (h : n < 18446744073709551616) : ConvV P s t (B8 n) (U n) := (ConvV.int hs ht).to (by rw [wrap_u64_id h])
theorem ConvV.uiS {n : Nat} (hs : tyInt P s .u64 = true) (ht : tyInt P t .i64 = true) (h : n < 9223372036854775808) : ConvV P s t (U n) (I (n : Int)) := (ConvV.int hs ht).to (by rw [wrap64_id (by omega) (by omega)])
end
section
variable {P : Program} {r : Option Nat} {N : Nat} {ops : Array Oper} {rest : List Oper} {Q : Exit → Act → World → Prop} {E : Env} {ds : List Deferred} {M : List HP} {F : List Fact}
variable {d : Nat} {ty : TypeId} {pos : String} {aft : Array Edge} {gd : Option (Nat × Bool)}
theorem PV.conv {s t : TypeId} {x : Operand} {v v' : Value} (hx : evalO E x = some v) (h : ConvV P s t v v') : PV P E M F ⟨some d, .convert s t x, ty, pos, aft, gd⟩ v' := ⟨rfl, fun ρ hρ w _ => by
  have h1 := h w
  simp [execOp, hρ _ _ hx, h1]⟩
theorem RL.conv {s t : TypeId} {x : Operand} {v v' : Value} (hg : wantedG ops E gd = some true) (hx : evalO E x = some v) (h : ConvV P s t v v') (hN : Nat.ble (d + 1) N = true) (k : RL P r N ops rest Q ((d, v') :: E) ds M F) : RL P r N ops (⟨some d, .convert s t x, ty, pos, aft, gd⟩ :: rest) Q E ds M F :=
  RL.val rfl hg hN (fun ρ hρ w _ => by
    have h1 := h w
    simp [execOp, hρ _ _ hx, h1]) k
/-! ### What can be read -/
def Rd (M : List HP) (F : List Fact) (oa : Option Addr) (xs : List Value) : Prop := ∀ w, St w M F → ArrAt w [] oa xs
theorem rd_fact {oa : Option Addr} {xs : List Value} (h : ArrF oa xs ∈ F) : Rd M F oa xs := fun w hw => by
  obtain ⟨K, hK⟩ := hw.fact h
  exact ArrAt.clear hK
theorem rd_own {oa : Option Addr} {e size n cap i : Nat} {xs : List Value} (hi : M[i]? = some (OwnSl e size oa n cap xs)) : Rd M F oa xs := fun w hw => by
  obtain ⟨K, ⟨K1, K2, _, h, _⟩, _⟩ := hw.front hi
  exact OwnSl.cells h
theorem Rd.mono {M' : List HP} {F' : List Fact} {oa : Option Addr} {xs : List Value} (h : Rd M F oa xs) (hs : ∀ w, St w M' F' → St w M F) : Rd M' F' oa xs := fun w hw => h w (hs w hw)
theorem src_rd {oa : Option Addr} {xs : List Value} {size m c : Nat} (h : Rd M F oa xs) (hs : xs.length = m * size) (h1 : xs.all Value.oneCell' = true) : ∀ w, St w M F → Src P w size m (.slice oa m c) xs := fun w hw => Src.slice (h w hw) hs h1
def tyByte (P : Program) (t : TypeId) : Bool := match P.underlying t with | some (.slice e) => tyInt P e .u8 | _ => false
theorem run_bytes_str {w : World} {s t : TypeId} {oa : Option Addr} {c : Nat} {l : List UInt8} (hs : tyByte P s = true) (ht : tyStr P t = true) (h : ArrAt w [] oa (bytesV l)) : (convert s t (.slice oa l.length c)).run P w = .ok (S l) w := by
  unfold tyByte at hs
  split at hs
  · rename_i e he
    have hb := tyInt_is hs
    cases oa with
    | none =>
      have hl : l = [] := by
        rcases h with h | ⟨b, off, e, _⟩
        · cases l with
          | nil => rfl
          | cons x l => simp [bytesV] at h
        · cases e
      subst hl
      exact run_convert_bytes_nil (P := P) w s e he hb 0 c t (tyStr_underlying ht)
    | some a =>
      rcases h with h | ⟨b, off, e2, hc⟩
      · have hl : l = [] := by
          cases l with
          | nil => rfl
          | cons x l => simp [bytesV] at h
        subst hl
        have := run_convert_bytes_string (P := P) w s t e (some a) 0 c he hb (tyStr_underlying ht)
        rw [show ([] : List UInt8).length = 0 from rfl, this]
        have h2 := run_bytesToString (P := P) w a 0 c [] (by have := run_loadCells_list (P := P) w a [] (by simp); simpa using this)
        rw [h2]
        rfl
      · cases e2
        have := run_convert_bytes_arg (P := P) w s e he hb b off l.length c (l.map fun u => (u.toNat : Int)) (by simp) (fun i hi => by
          have := hc.2.2 i (.int .u8 ((l[i]).toNat : Int)) (by simp [bytesV, hi])
          rw [this]
          simp [List.getD, hi]) t (tyStr_underlying ht)
        rw [this]
        congr 3
        simp only [strOfNums, List.map_map]
        congr 2
        conv => rhs; rw [← List.map_id l]
        exact List.map_congr_left fun u _ => by simp
  · cases hs
theorem PV.convBS {s t : TypeId} {x : Operand} {oa : Option Addr} {n c : Nat} {l : List UInt8} (hs : tyByte P s = true) (ht : tyStr P t = true) (hx : evalO E x = some (.slice oa n c)) (hn : n = l.length) (h : Rd M F oa (bytesV l)) : PV P E M F ⟨some d, .convert s t x, ty, pos, aft, gd⟩ (S l) := ⟨rfl, fun ρ hρ w hw => by
  subst hn
  have h1 := run_bytes_str (P := P) (s := s) (t := t) (c := c) hs ht (h w hw)
  simp [execOp, hρ _ _ hx, h1]⟩
theorem RL.convBS {s t : TypeId} {x : Operand} {oa : Option Addr} {n c : Nat} {l : List UInt8} (hg : wantedG ops E gd = some true) (hs : tyByte P s = true) (ht : tyStr P t = true) (hx : evalO E x = some (.slice oa n c)) (hn : n = l.length) (h : Rd M F oa (bytesV l)) (hN : Nat.ble (d + 1) N = true) (k : RL P r N ops rest Q ((d, S l) :: E) ds M F) : RL P r N ops (⟨some d, .convert s t x, ty, pos, aft, gd⟩ :: rest) Q E ds M F :=
  RL.val rfl hg hN (fun ρ hρ w hw => by
    subst hn
    have h1 := run_bytes_str (P := P) (s := s) (t := t) (c := c) hs ht (h w hw)
    simp [execOp, hρ _ _ hx, h1]) k
theorem RL.convSB {s t : TypeId} {x : Operand} {l : List UInt8} (hg : wantedG ops E gd = some true) (hs : tyStr P s = true) (ht : tyByte P t = true) (hx : evalO E x = some (S l)) (hN : Nat.ble (d + 1) N = true) (k : ∀ z : {z : Option Addr × Nat // l.length ≤ z.2}, RL P r N ops rest Q ((d, .slice z.1.1 l.length z.1.2) :: E) ds M (ArrF z.1.1 (bytesV l) :: F)) : RL P r N ops (⟨some d, .convert s t x, ty, pos, aft, gd⟩ :: rest) Q E ds M F :=
  RL.gen (ι := {z : Option Addr × Nat // l.length ≤ z.2}) (val := fun z => .slice z.1.1 l.length z.1.2) (M' := fun _ => M) (F' := fun z => ArrF z.1.1 (bytesV l) :: F) rfl hg hN (fun ρ hρ w hw => by
    unfold tyByte at ht
    split at ht
    · rename_i e he
      have hb := tyInt_is ht
      have h1 := Lib.run_convert_string_bytes (P := P) w s t e ⟨l.toArray⟩ (tyStr_underlying hs) he hb
      rw [S_size] at h1
      refine ⟨⟨(some ⟨w.heap.size, 0, none⟩, grownCap w l.length 0 e), grownCap_ge w _ _ e⟩, Lib.bytesWorld w e ⟨l.toArray⟩, by simp [execOp, hρ _ _ hx, h1], ?_⟩
      have hg2 : St (Lib.bytesWorld w e ⟨l.toArray⟩) M F := hw.grow rfl rfl rfl (by rw [Lib.bytesWorld_size]; omega) fun b hb => Lib.bytesWorld_at_old w e _ b hb
      obtain ⟨K, ho, hn, hf⟩ := hw
      have hg3 : ∀ b, b < w.heap.size → (Lib.bytesWorld w e ⟨l.toArray⟩).heap[b]? = w.heap[b]? := fun b hb => Lib.bytesWorld_at_old w e _ b hb
      refine ⟨K, ho.loc fun b hb => hg3 b (ho.lt b hb), hn, fun φ hφ => ?_⟩
      rcases List.mem_cons.1 hφ with e1 | hφ
      · subst e1
        refine .inr ⟨w.heap.size, 0, rfl, fun hk => ?_, by rw [Lib.bytesWorld_size]; omega, fun j v hv => ?_⟩
        · have := ho.lt _ hk; omega
        · have hj : j < l.length := by have := (List.getElem?_eq_some_iff.1 hv).1; simpa [bytesV] using this
          rw [Nat.zero_add, Lib.bytesWorld_cell w e _ j (by rw [S_size]; exact hj)]
          simp only [bytesV, List.getElem?_map] at hv
          rw [List.getElem?_eq_getElem hj] at hv
          simp only [Option.map_some, Option.some.injEq] at hv
          rw [← hv]
          simp [List.getD, hj]
      · exact φ.mono (hf φ hφ) ⟨rfl, rfl, rfl, by rw [Lib.bytesWorld_size]; omega, fun b hb _ => hg3 b hb, fun c hc => .inl hc⟩
    · cases ht) k
end
end Go.GL

namespace Go.GL
set_option linter.unusedVariables false
/-! ### Varints -/
def encU (n : Nat) : List UInt8 := if n < 128 then [UInt8.ofNat n] else UInt8.ofNat (128 + n % 128) :: encU (n / 128)
termination_by n
decreasing_by omega
theorem encU_small {n : Nat} (h : n < 128) : encU n = [UInt8.ofNat n] := by rw [encU, if_pos h]
theorem encU_big {n : Nat} (h : ¬ n < 128) : encU n = UInt8.ofNat (128 + n % 128) :: encU (n / 128) := by rw [encU, if_neg h]
theorem encU_pos (n : Nat) : 0 < (encU n).length := by
  by_cases h : n < 128
  · rw [encU_small h]; simp
  · rw [encU_big h]; simp
theorem encU_len {k : Nat} : ∀ {n : Nat}, n < 128 ^ (k + 1) → (encU n).length ≤ k + 1 := by
  induction k with
  | zero => intro n h; rw [encU_small (by simpa using h)]; simp
  | succ k ih =>
    intro n h
    by_cases hs : n < 128
    · rw [encU_small hs]; simp
    · rw [encU_big hs, List.length_cons]
      have := ih (n := n / 128) (by rw [Nat.div_lt_iff_lt_mul (by omega)]; rw [Nat.pow_succ] at h; exact h)
      omega
theorem encU_len10 {n : Nat} (h : n < 18446744073709551616) : (encU n).length ≤ 10 := encU_len (k := 9) (by
  have : (128 : Nat) ^ (9 + 1) = 1180591620717411303424 := by decide
  omega)
theorem u8_ofNat {n : Nat} (h : n < 256) : (UInt8.ofNat n).toNat = n := by simp; omega
theorem or128 {c : Nat} (h : c < 256) : c ||| 128 = 128 + c % 128 := by
  have : ∀ c : Fin 256, c.1 ||| 128 = 128 + c.1 % 128 := by decide +kernel
  exact this ⟨c, h⟩
/-- the byte of a number that is followed by another one -/
theorem more_byte {n : Nat} : B8 (n % 256 ||| 128) = .int .u8 ((UInt8.ofNat (128 + n % 128)).toNat : Int) := by
  rw [or128 (by omega), u8_ofNat (by omega)]
  congr 2; omega
theorem last_byte {n : Nat} (h : n < 128) : B8 (n % 256) = .int .u8 ((UInt8.ofNat n).toNat : Int) := by
  rw [u8_ofNat (by omega), Nat.mod_eq_of_lt (by omega)]
def zz (n : Int) : Nat := if n < 0 then (2 * (-(n + 1)) + 1).toNat else (2 * n).toNat
def uz (z : Nat) : Int := if z % 2 = 1 then -((z / 2 : Nat) : Int) - 1 else ((z / 2 : Nat) : Int)
theorem uz_zz (n : Int) : uz (zz n) = n := by
  unfold uz zz
  split
  · rw [if_pos (by omega)]; omega
  · rw [if_neg (by omega)]; omega
theorem zz_lt {n : Int} (h0 : -9223372036854775808 ≤ n) (h1 : n ≤ 9223372036854775807) : zz n < 18446744073709551616 := by
  unfold zz; split <;> omega
def decU : Nat → Nat → List UInt8 → Nat × List UInt8 × Int
  | _, _, [] => (0, [], 3)
  | i, n, c :: b => if (i = 9 ∧ 1 < c.toNat) ∨ (0 < i ∧ c.toNat = 0) then (0, b, 2) else if c.toNat < 128 then (n + c.toNat % 128 * 2 ^ (7 * i), b, 0) else decU (i + 1) (n + c.toNat % 128 * 2 ^ (7 * i)) b
theorem decU_enc (rest : List UInt8) : ∀ (m i n : Nat), (0 < i → 0 < m) → m * 2 ^ (7 * i) < 18446744073709551616 → decU i n (encU m ++ rest) = (n + m * 2 ^ (7 * i), rest, 0) := by
  intro m
  induction m using Nat.strongRecOn with
  | _ m ih =>
    intro i n hi hm
    have h9 : i = 9 → m ≤ 1 := by
      rintro rfl
      have e : (2 : Nat) ^ (7 * 9) = 9223372036854775808 := by decide
      rw [e] at hm
      omega
    by_cases hs : m < 128
    · rw [encU_small hs, List.singleton_append, decU, u8_ofNat (by omega), if_neg (by omega), if_pos hs, Nat.mod_eq_of_lt hs]
    · rw [encU_big hs, List.cons_append, decU, u8_ofNat (by omega), if_neg (by omega), if_neg (by omega)]
      have e : (128 + m % 128) % 128 = m % 128 := by omega
      have e2 : m / 128 * 2 ^ (7 * (i + 1)) + m % 128 * 2 ^ (7 * i) = m * 2 ^ (7 * i) := by
        rw [show 7 * (i + 1) = 7 * i + 7 from by omega, Nat.pow_add, show (2 : Nat) ^ 7 = 128 from rfl, Nat.mul_comm (2 ^ (7 * i)) 128, ← Nat.mul_assoc, ← Nat.add_mul]
        congr 1; omega
      rw [ih (m / 128) (by omega) (i + 1) _ (by omega) (by omega), e]
      congr 1
      omega
theorem decU_err {i n : Nat} {b : List UInt8} (h : (decU i n b).2.2 ≠ 0) : (decU i n b).1 = 0 := by
  induction b generalizing i n with
  | nil => rfl
  | cons c b ih =>
    rw [decU] at h ⊢
    split
    · rfl
    · rename_i h1
      rw [if_neg h1] at h
      split
      · rename_i h2; rw [if_pos h2] at h; exact absurd rfl h
      · rename_i h2; rw [if_neg h2] at h; exact ih h
theorem decU_suf {i n : Nat} {b : List UInt8} : ∃ p, b = p ++ (decU i n b).2.1 := by
  induction b generalizing i n with
  | nil => exact ⟨[], rfl⟩
  | cons c b ih =>
    rw [decU]
    split
    · exact ⟨[c], rfl⟩
    · split
      · exact ⟨[c], rfl⟩
      · obtain ⟨p, hp⟩ := ih (i := i + 1) (n := n + c.toNat % 128 * 2 ^ (7 * i))
        exact ⟨c :: p, by rw [List.cons_append, ← hp]⟩
theorem decU_lt : ∀ {i n : Nat} {b : List UInt8}, i ≤ 9 → n < 2 ^ (7 * i) → (decU i n b).1 < 18446744073709551616
  | i, n, [], _, _ => by rw [decU]; decide
  | i, n, c :: b, hi, hn => by
    rw [decU]
    have hc := c.toNat_lt
    have hm : c.toNat % 128 < 128 := Nat.mod_lt _ (by omega)
    have hstep : n + c.toNat % 128 * 2 ^ (7 * i) < 2 ^ (7 * (i + 1)) := by
      rw [show 7 * (i + 1) = 7 * i + 7 from by omega, Nat.pow_add, show (2 : Nat) ^ 7 = 128 from rfl]
      have : c.toNat % 128 * 2 ^ (7 * i) ≤ 127 * 2 ^ (7 * i) := Nat.mul_le_mul_right _ (by omega)
      omega
    by_cases h1 : (i = 9 ∧ 1 < c.toNat) ∨ (0 < i ∧ c.toNat = 0)
    · rw [if_pos h1]; exact (show (0 : Nat) < 18446744073709551616 by omega)
    · rw [if_neg h1]
      by_cases h2 : c.toNat < 128
      · rw [if_pos h2]
        show n + c.toNat % 128 * 2 ^ (7 * i) < _
        by_cases h9 : i = 9
        · subst h9
          have e : (2 : Nat) ^ (7 * 9) = 9223372036854775808 := by decide
          rw [e] at hn ⊢
          have : c.toNat % 128 ≤ 1 := by omega
          have : c.toNat % 128 * 9223372036854775808 ≤ 1 * 9223372036854775808 := Nat.mul_le_mul_right _ this
          omega
        · refine Nat.lt_of_lt_of_le hstep ?_
          have : (2 : Nat) ^ (7 * (i + 1)) ≤ 2 ^ 64 := Nat.pow_le_pow_right (by omega) (by omega)
          exact this
      · rw [if_neg h2]
        exact decU_lt (by omega) hstep
/-! ### Readers -/
def rdU (l : List UInt8) (e : Int) : Nat × List UInt8 × Int := if e = 0 then decU 0 0 l else (0, l, e)
def rdRaw (l : List UInt8) (e : Int) : List UInt8 × List UInt8 × Int :=
  if (rdU l e).2.2 = 0 then (if (rdU l e).1 ≤ (rdU l e).2.1.length then ((rdU l e).2.1.take (rdU l e).1, (rdU l e).2.1.drop (rdU l e).1, 0) else ([], (rdU l e).2.1, 3)) else ([], (rdU l e).2.1, (rdU l e).2.2)
theorem rdU_enc {n : Nat} (h : n < 18446744073709551616) (rest : List UInt8) : rdU (encU n ++ rest) 0 = (n, rest, 0) := by
  unfold rdU
  rw [if_pos rfl, decU_enc rest n 0 0 (by omega) (by simpa using h)]
  simp
theorem rdU_lt {l : List UInt8} {e : Int} : (rdU l e).1 < 18446744073709551616 := by
  unfold rdU
  split
  · exact decU_lt (by omega) (by simp)
  · exact (show (0 : Nat) < 18446744073709551616 by omega)
theorem rdU_suf {l : List UInt8} {e : Int} : ∃ p, l = p ++ (rdU l e).2.1 := by
  unfold rdU
  split
  · exact decU_suf
  · exact ⟨[], rfl⟩
theorem rdU_err {l : List UInt8} {e : Int} (h : (rdU l e).2.2 ≠ 0) : (rdU l e).1 = 0 := by
  unfold rdU at h ⊢
  split
  · rename_i he; rw [if_pos he] at h; exact decU_err h
  · rfl
def encR (x : List UInt8) : List UInt8 := encU x.length ++ x
theorem rdRaw_enc {x : List UInt8} (h : x.length < 18446744073709551616) (rest : List UInt8) : rdRaw (encR x ++ rest) 0 = (x, rest, 0) := by
  unfold rdRaw encR
  rw [List.append_assoc, rdU_enc h]
  simp
/-! ### The hash -/
def mixN (s w : Nat) : Nat := ((s ^^^ w) * 11400714819323198485 % 18446744073709551616) ^^^ ((s ^^^ w) * 11400714819323198485 % 18446744073709551616 / 4294967296)
theorem mixN_lt {s w : Nat} : mixN s w < 18446744073709551616 := by
  unfold mixN
  refine Nat.xor_lt_two_pow (n := 64) (Nat.mod_lt _ (by omega)) ?_
  exact Nat.lt_of_le_of_lt (Nat.div_le_self _ _) (Nat.mod_lt _ (by omega))
def wordN : List UInt8 → Nat
  | [] => 0
  | c :: b => c.toNat + 256 * wordN b
theorem wordN_lt : ∀ {b : List UInt8}, wordN b < 256 ^ b.length
  | [] => by simp [wordN]
  | c :: b => by
    have := wordN_lt (b := b)
    have := c.toNat_lt
    rw [wordN, List.length_cons, Nat.pow_succ]
    omega
theorem wordN_lt64 {b : List UInt8} (h : b.length ≤ 8) : wordN b < 18446744073709551616 :=
  Nat.lt_of_lt_of_le wordN_lt (Nat.le_trans (Nat.pow_le_pow_right (by omega) h) (by decide))
theorem wordN_snoc : ∀ (b : List UInt8) (c : UInt8), wordN (b ++ [c]) = wordN b + c.toNat * 256 ^ b.length
  | [], c => by simp [wordN]
  | x :: b, c => by
    rw [List.cons_append, wordN, wordN_snoc b c, wordN, List.length_cons, Nat.pow_succ, Nat.mul_add, ← Nat.mul_assoc c.toNat, Nat.mul_comm 256 (c.toNat * 256 ^ b.length)]
    omega
def wordsN (b : List UInt8) : List Nat := (List.range ((b.length + 7) / 8)).map fun k => wordN ((b.drop (8 * k)).take 8)
theorem wordsN_length (b : List UInt8) : (wordsN b).length = (b.length + 7) / 8 := by simp [wordsN]
theorem wordsN_get {b : List UInt8} {k : Nat} (h : k < (wordsN b).length) : (wordsN b)[k] = wordN ((b.drop (8 * k)).take 8) := by simp [wordsN]
def i64of (n : Nat) : Int := IntKind.i64.wrap (n : Int)
def u64of (n : Int) : Nat := (n % 18446744073709551616).toNat
theorem u64of_lt (n : Int) : u64of n < 18446744073709551616 := by unfold u64of; omega
theorem u64of_i64of {n : Nat} (h : n < 18446744073709551616) : u64of (i64of n) = n := by
  unfold u64of i64of
  simp [IntKind.wrap, IntKind.bits, IntKind.signed]
  split <;> omega
theorem i64of_range (n : Nat) : -9223372036854775808 ≤ i64of n ∧ i64of n ≤ 9223372036854775807 := by
  unfold i64of
  simp [IntKind.wrap, IntKind.bits, IntKind.signed]
  split <;> omega
theorem u64of_nat (n : Nat) : u64of (n : Int) = n % 18446744073709551616 := by unfold u64of; omega
theorem ConvV.iu64 {P : Program} {s t : TypeId} {n : Int} (hs : tyInt P s .i64 = true) (ht : tyInt P t .u64 = true) : ConvV P s t (I n) (U (u64of n)) := (ConvV.int hs ht).to (by
  show Value.int .u64 _ = Value.int .u64 ((u64of n : Nat) : Int)
  rw [wrap_u64i]; unfold u64of; congr 1; omega)
theorem ConvV.ui64 {P : Program} {s t : TypeId} {n : Nat} (hs : tyInt P s .u64 = true) (ht : tyInt P t .i64 = true) : ConvV P s t (U n) (I (i64of n)) := ConvV.int hs ht
def sumN (label : List UInt8) (l : List Int) : Nat :=
  mixN (l.foldl (fun s n => mixN s (u64of n)) (mixN (mixN ((wordsN label).foldl mixN 0) label.length) l.length)) 0
def hashN (label b : List UInt8) : Nat := sumN label ((wordsN b).map i64of ++ [(b.length : Int)])
theorem foldl_mix_lt : ∀ {l : List Nat} {s : Nat}, s < 18446744073709551616 → l.foldl mixN s < 18446744073709551616
  | [], _, h => h
  | x :: l, s, _ => foldl_mix_lt (l := l) mixN_lt
theorem foldl_mixI_lt : ∀ {l : List Int} {s : Nat}, s < 18446744073709551616 → l.foldl (fun s n => mixN s (u64of n)) s < 18446744073709551616
  | [], _, h => h
  | x :: l, s, _ => foldl_mixI_lt (l := l) mixN_lt
theorem hashN_lt {label b : List UInt8} : hashN label b < 18446744073709551616 := mixN_lt
/-! ### Frames -/
def jl : List UInt8 := [106, 111, 117, 114, 110, 97, 108]
def coreJ (i : Int) (x : List UInt8) : List UInt8 := encU (zz i) ++ encR x
def frameJ (i : Int) (x : List UInt8) : List UInt8 := encR (coreJ i x) ++ encU (hashN jl (coreJ i x))
def recOf (b : List UInt8) : List UInt8 :=
  let k := min b.length (10 + min (rdU (b.take 10) 0).1 b.length)
  let core := (rdRaw (b.take k) 0).1
  (rdRaw (rdU core 0).2.1 (rdU core 0).2.2).1
theorem coreJ_len {i : Int} {x : List UInt8} (h0 : -9223372036854775808 ≤ i) (h1 : i ≤ 9223372036854775807) (hx : x.length ≤ 4611686018427387904) : (coreJ i x).length ≤ x.length + 20 ∧ x.length < (coreJ i x).length := by
  have := encU_len10 (zz_lt h0 h1)
  have := encU_len10 (n := x.length) (by omega)
  have := encU_pos (zz i)
  unfold coreJ encR
  simp only [List.length_append]
  omega
theorem frameJ_len {i : Int} {x : List UInt8} (h0 : -9223372036854775808 ≤ i) (h1 : i ≤ 9223372036854775807) (hx : x.length ≤ 4611686018427387000) : (frameJ i x).length ≤ x.length + 40 ∧ x.length < (frameJ i x).length := by
  have := coreJ_len h0 h1 (x := x) (by omega)
  have := encU_len10 (n := (coreJ i x).length) (by omega)
  have := encU_len10 (hashN_lt (label := jl) (b := coreJ i x))
  unfold frameJ
  rw [List.length_append, encR, List.length_append]
  omega
theorem recOf_frame {i : Int} {x rest : List UInt8} (h0 : -9223372036854775808 ≤ i) (h1 : i ≤ 9223372036854775807) (hx : x.length ≤ 4611686018427387000) : recOf (frameJ i x ++ rest) = x := by
  have hc := coreJ_len h0 h1 (x := x) (by omega)
  have hl := encU_len10 (n := (coreJ i x).length) (by omega)
  have e1 : frameJ i x ++ rest = encU (coreJ i x).length ++ (coreJ i x ++ (encU (hashN jl (coreJ i x)) ++ rest)) := by
    unfold frameJ encR; simp only [List.append_assoc]
  have e2 : rdU ((frameJ i x ++ rest).take 10) 0 = ((coreJ i x).length, (coreJ i x ++ (encU (hashN jl (coreJ i x)) ++ rest)).take (10 - (encU (coreJ i x).length).length), 0) := by
    rw [e1, List.take_append, List.take_of_length_le hl]
    exact rdU_enc (by omega) _
  have hlen : (frameJ i x ++ rest).length = (encU (coreJ i x).length).length + ((coreJ i x).length + (encU (hashN jl (coreJ i x)) ++ rest).length) := by
    rw [e1]; simp only [List.length_append]
  unfold recOf
  simp only [e2]
  have hk : ∃ r', (frameJ i x ++ rest).take (min (frameJ i x ++ rest).length (10 + min (coreJ i x).length (frameJ i x ++ rest).length)) = encR (coreJ i x) ++ r' := by
    rw [Nat.min_eq_left (show (coreJ i x).length ≤ (frameJ i x ++ rest).length by omega)]
    refine ⟨(encU (hashN jl (coreJ i x)) ++ rest).take (min (frameJ i x ++ rest).length (10 + (coreJ i x).length) - (encR (coreJ i x)).length), ?_⟩
    have hR : (encR (coreJ i x)).length = (encU (coreJ i x).length).length + (coreJ i x).length := by unfold encR; rw [List.length_append]
    rw [show frameJ i x ++ rest = encR (coreJ i x) ++ (encU (hashN jl (coreJ i x)) ++ rest) from by unfold frameJ; rw [List.append_assoc], List.take_append]
    congr 1
    rw [List.take_of_length_le]
    rw [← List.append_assoc, show encR (coreJ i x) ++ encU (hashN jl (coreJ i x)) = frameJ i x from rfl]
    omega
  obtain ⟨r', hr'⟩ := hk
  rw [hr', rdRaw_enc (by omega)]
  simp only
  rw [coreJ, rdU_enc (zz_lt h0 h1)]
  simp only
  have := rdRaw_enc (x := x) (by omega) []
  rw [List.append_nil] at this
  rw [this]
/-! ### A writer's buffer -/
def WrB (T e b : Nat) (l : List UInt8) : HP := Ex (ι := Option Addr × Nat) fun i => [Box b T [.slice i.1 l.length i.2], OwnSl e 1 i.1 l.length i.2 (bytesV l)]
theorem St.wrNew {w : World} {M : List HP} {F : List Fact} {T e b : Nat} (h : St w (Box b T [.slice none 0 0] :: M) F) : St w (WrB T e b [] :: M) F :=
  St.exClose (none, 0) ((OwnSl.nil_new e 1 h).swap)
theorem St.wrClose {w : World} {M : List HP} {F : List Fact} {T e b n : Nat} {oa : Option Addr} {c : Nat} {l : List UInt8} {xs : List Value} (hn : n = l.length) (hx : xs = bytesV l) (h : St w (Box b T [.slice oa n c] :: OwnSl e 1 oa n c xs :: M) F) : St w (WrB T e b l :: M) F := by
  subst hn hx
  exact St.exClose (oa, c) h
theorem bytesV_snoc (l : List UInt8) (c : UInt8) : bytesV (l ++ [c]) = bytesV l ++ [.int .u8 (c.toNat : Int)] := by simp [bytesV]
theorem zz_bits {n : Int} (h0 : -9223372036854775808 ≤ n) (h1 : n ≤ 9223372036854775807) : (u64of n * 2 ^ 1 % 18446744073709551616) ^^^ u64of (n.fdiv (2 ^ 63)) = zz n := by
  have e : (2 : Int) ^ 63 = 9223372036854775808 := by decide
  unfold zz
  by_cases h : n < 0
  · rw [if_pos h]
    have e2 : n.fdiv (2 ^ 63) = -1 := by rw [e, Int.fdiv_eq_ediv_of_nonneg _ (by omega)]; omega
    have e3 : u64of (-1) = 18446744073709551615 := by decide
    rw [e2, e3, xor_ones (Nat.mod_lt _ (by omega))]
    unfold u64of
    omega
  · rw [if_neg h]
    have e2 : n.fdiv (2 ^ 63) = 0 := by rw [e, Int.fdiv_eq_ediv_of_nonneg _ (by omega)]; omega
    have e3 : u64of 0 = 0 := by decide
    rw [e2, e3, Nat.xor_zero]
    unfold u64of
    omega
/-- a variable that holds a row of one's own -/
def VarB (T e size b n : Nat) (xs : List Value) : HP := Ex (ι := Option Addr × Nat) fun i => [Box b T [.slice i.1 n i.2], OwnSl e size i.1 n i.2 xs]
theorem St.varNew {w : World} {M : List HP} {F : List Fact} {T e size b : Nat} (h : St w (Box b T [.slice none 0 0] :: M) F) : St w (VarB T e size b 0 [] :: M) F :=
  St.exClose (none, 0) ((OwnSl.nil_new e size h).swap)
def wordEnc : Nat → List Value → Prop := fun n args => args = [U n]
theorem wordEnc_len (x : Nat) (args : List Value) (h : wordEnc x args) : args.length = 1 := by rw [show args = [U x] from h]; rfl
theorem or_word {w c j : Nat} (hw : w < 256 ^ j) (hc : c < 256) (hj : j ≤ 7) : w ||| (c * 2 ^ (8 * j) % 18446744073709551616) = w + c * 256 ^ j := by
  have e : (2 : Nat) ^ (8 * j) = 256 ^ j := by rw [Nat.pow_mul]
  have hb : c * 256 ^ j < 18446744073709551616 := by
    have h1 : c * 256 ^ j ≤ 255 * 256 ^ j := Nat.mul_le_mul_right _ (by omega)
    have h2 : (256 : Nat) ^ j ≤ 256 ^ 7 := Nat.pow_le_pow_right (by omega) hj
    have h3 : (256 : Nat) ^ 7 = 72057594037927936 := by decide
    omega
  rw [e, Nat.mod_eq_of_lt hb, Nat.or_comm]
  have := Nat.two_pow_add_eq_or_of_lt (i := 8 * j) (b := w) (by rw [e]; exact hw) c
  rw [e, Nat.mul_comm] at this
  rw [← this, Nat.add_comm]
theorem take_word {b : List UInt8} {k j : Nat} (h : 8 * k + j < b.length) : (b.drop (8 * k)).take (j + 1) = (b.drop (8 * k)).take j ++ [b[8 * k + j]] := by
  rw [List.take_succ_eq_append_getElem (by rw [List.length_drop]; omega), List.getElem_drop]
theorem word_len {b : List UInt8} {k j : Nat} (h : 8 * k + j ≤ b.length) : ((b.drop (8 * k)).take j).length = j := by
  rw [List.length_take, List.length_drop]; omega
theorem word_step {b : List UInt8} {k j : Nat} (h : 8 * k + j < b.length) (hj : j ≤ 7) : wordN ((b.drop (8 * k)).take j) ||| (b[8 * k + j].toNat * 2 ^ (8 * j) % 18446744073709551616) = wordN ((b.drop (8 * k)).take (j + 1)) := by
  rw [or_word (by have := wordN_lt (b := (b.drop (8 * k)).take j); rwa [word_len (by omega)] at this) (b[8 * k + j]).toNat_lt hj, take_word h, wordN_snoc, word_len (by omega)]
theorem word_all {b : List UInt8} {k j : Nat} (h : ¬ (j : Int) + 8 * k < min (8 * (k : Int) + 8) b.length) (hj : j ≤ 8) (hl : 8 * k + j ≤ b.length) : (b.drop (8 * k)).take j = (b.drop (8 * k)).take 8 := by
  rcases Nat.lt_or_ge j 8 with h8 | h8
  · rw [List.take_of_length_le (by rw [List.length_drop]; omega), List.take_of_length_le (by rw [List.length_drop]; omega)]
  · rw [show j = 8 from by omega]
theorem bytesV_get {b : List UInt8} {i : Nat} (h : i < b.length) : (bytesV b)[((i : Nat) : Int).toNat * 1]? = some (.int .u8 (b[i].toNat : Int)) := by
  rw [Int.toNat_natCast, Nat.mul_one, bytesV, List.getElem?_map, List.getElem?_eq_getElem h]; rfl
theorem bytesV_ne {b : List UInt8} {i : Nat} (h : i < b.length) : bytesV b ≠ [] := by
  intro e; have h9 := bytesV_length b; rw [e] at h9; simp at h9; omega
theorem words_lt {b : List UInt8} {pre suf : List Nat} {x : Nat} (h : wordsN b = pre ++ x :: suf) : x < 18446744073709551616 := by
  have hm : x ∈ wordsN b := by rw [h]; simp
  unfold wordsN at hm
  obtain ⟨k, _, rfl⟩ := List.mem_map.1 hm
  exact wordN_lt64 (by rw [List.length_take]; omega)
/-! ### Readers in memory -/
structure RdX where
  oa : Option Addr
  c : Nat
theorem uz_range {z : Nat} (h : z < 18446744073709551616) : -9223372036854775808 ≤ uz z ∧ uz z ≤ 9223372036854775807 := by
  unfold uz; split <;> omega
theorem xor_neg1 {x : Int} (h0 : 0 ≤ x) (h1 : x ≤ 9223372036854775807) : bits .xor .i64 x (-1) = -x - 1 := by
  obtain ⟨n, rfl⟩ := Int.eq_ofNat_of_zero_le h0
  have e1 : BitVec.ofInt 64 (n : Int) = BitVec.ofNat 64 n := by simp
  have e2 : BitVec.ofInt 64 (-1) = BitVec.allOnes 64 := by decide
  have e3 : (BitVec.ofNat 64 n ^^^ BitVec.allOnes 64).toNat = 18446744073709551615 - n := by
    rw [BitVec.xor_allOnes, BitVec.toNat_not, BitVec.toNat_ofNat, Nat.mod_eq_of_lt (by omega)]
  show IntKind.i64.wrap ((BitVec.ofInt 64 (n : Int) ^^^ BitVec.ofInt 64 (-1)).toNat : Int) = _
  rw [e1, e2, e3]
  simp [IntKind.wrap, IntKind.bits, IntKind.signed]
  omega
theorem xor_zero {x : Int} (h0 : 0 ≤ x) (h1 : x ≤ 9223372036854775807) : bits .xor .i64 x 0 = x := by
  obtain ⟨n, rfl⟩ := Int.eq_ofNat_of_zero_le h0
  have e1 : BitVec.ofInt 64 (n : Int) = BitVec.ofNat 64 n := by simp
  have e2 : BitVec.ofInt 64 0 = 0#64 := by decide
  show IntKind.i64.wrap ((BitVec.ofInt 64 (n : Int) ^^^ BitVec.ofInt 64 0).toNat : Int) = _
  rw [e1, e2, BitVec.xor_zero, BitVec.toNat_ofNat, Nat.mod_eq_of_lt (by omega), wrap64_id (by omega) h1]
theorem i64of_small {n : Nat} (h : n < 9223372036854775808) : i64of n = (n : Int) := wrap64_id (by omega) (by omega)
theorem uz_bits {z : Nat} (h : z < 18446744073709551616) : bits .xor .i64 (i64of (z / 2 ^ 1)) (-(i64of (z &&& 1))) = uz z := by
  rw [show (2 : Nat) ^ 1 = 2 from rfl, nat_mask1, i64of_small (by omega), i64of_small (by omega)]
  unfold uz
  by_cases h1 : z % 2 = 1
  · rw [if_pos h1, h1]; exact xor_neg1 (by omega) (by omega)
  · rw [if_neg h1, show z % 2 = 0 from by omega]; exact xor_zero (by omega) (by omega)
theorem or_add {n m i : Nat} (h : n < 2 ^ (7 * i)) (hm : m * 2 ^ (7 * i) < 18446744073709551616) : n ||| (m * 2 ^ (7 * i) % 18446744073709551616) = n + m * 2 ^ (7 * i) := by
  rw [Nat.mod_eq_of_lt hm, Nat.or_comm]
  have := Nat.two_pow_add_eq_or_of_lt h m
  rw [Nat.mul_comm] at this
  rw [← this, Nat.add_comm]
/-- a byte that does not fit -/
def badU (i : Nat) (c : UInt8) : Prop := (i = 9 ∧ 1 < c.toNat) ∨ (0 < i ∧ c.toNat = 0)
theorem decU_bad {i n : Nat} {c : UInt8} {b : List UInt8} (h : badU i c) : decU i n (c :: b) = (0, b, 2) := by rw [decU]; exact if_pos h
theorem decU_last {i n : Nat} {c : UInt8} {b : List UInt8} (h : ¬ badU i c) (hc : c.toNat < 128) : decU i n (c :: b) = (n + c.toNat % 128 * 2 ^ (7 * i), b, 0) := by rw [decU]; exact (if_neg h).trans (if_pos hc)
theorem decU_more {i n : Nat} {c : UInt8} {b : List UInt8} (h : ¬ badU i c) (hc : ¬ c.toNat < 128) : decU i n (c :: b) = decU (i + 1) (n + c.toNat % 128 * 2 ^ (7 * i)) b := by rw [decU]; exact (if_neg h).trans (if_neg hc)
theorem byte_fits {i n : Nat} {c : UInt8} (h : ¬ badU i c) (hi : i ≤ 9) (hn : n < 2 ^ (7 * i)) : n + c.toNat % 128 * 2 ^ (7 * i) < 18446744073709551616 ∧ (i ≤ 8 → n + c.toNat % 128 * 2 ^ (7 * i) < 2 ^ (7 * (i + 1))) := by
  unfold badU at h
  have hm : c.toNat % 128 < 128 := Nat.mod_lt _ (by omega)
  have hstep : n + c.toNat % 128 * 2 ^ (7 * i) < 2 ^ (7 * (i + 1)) := by
    rw [show 7 * (i + 1) = 7 * i + 7 from by omega, Nat.pow_add, show (2 : Nat) ^ 7 = 128 from rfl]
    have : c.toNat % 128 * 2 ^ (7 * i) ≤ 127 * 2 ^ (7 * i) := Nat.mul_le_mul_right _ (by omega)
    omega
  refine ⟨?_, fun _ => hstep⟩
  by_cases h9 : i = 9
  · subst h9
    have e : (2 : Nat) ^ (7 * 9) = 9223372036854775808 := by decide
    rw [e] at hn ⊢
    have : c.toNat % 128 * 9223372036854775808 ≤ 1 * 9223372036854775808 := Nat.mul_le_mul_right _ (by omega)
    omega
  · refine Nat.lt_of_lt_of_le hstep ?_
    have : (2 : Nat) ^ (7 * (i + 1)) ≤ 2 ^ 64 := Nat.pow_le_pow_right (by omega) (by omega)
    exact this
theorem rdRaw_err {l : List UInt8} {e : Int} (h : (rdU l e).2.2 ≠ 0) : rdRaw l e = ([], (rdU l e).2.1, (rdU l e).2.2) := by unfold rdRaw; rw [if_neg h]
theorem rdRaw_far {l : List UInt8} {e : Int} (h : (rdU l e).2.2 = 0) (hn : (rdU l e).2.1.length < (rdU l e).1) : rdRaw l e = ([], (rdU l e).2.1, 3) := by unfold rdRaw; rw [if_pos h, if_neg (by omega)]
theorem rdRaw_ok {l : List UInt8} {e : Int} (h : (rdU l e).2.2 = 0) (hn : (rdU l e).1 ≤ (rdU l e).2.1.length) : rdRaw l e = ((rdU l e).2.1.take (rdU l e).1, (rdU l e).2.1.drop (rdU l e).1, 0) := by unfold rdRaw; rw [if_pos h, if_pos hn]
/-- the rest of a slice of bytes -/
theorem St.cutB {w : World} {M : List HP} {F : List Fact} {oa : Option Addr} {cap : Nat} {l : List UInt8} (k : Nat) (hk : k ≤ l.length) (hc : l.length ≤ cap) (hF : ArrF oa (bytesV l) ∈ F) (h : St w M F) : St w M (ArrF (cutA oa k cap 1) (bytesV (l.drop k)) :: F) :=
  h.derive fun K hf => by
    have h9 := ArrAt.cut (size := 1) (cap := cap) (n := l.length) (hf _ hF) k l.length (by rw [bytesV_length, Nat.mul_one]) (Nat.le_refl _) hc
    rw [Nat.mul_one, Nat.mul_one, List.take_of_length_le (by rw [bytesV_length]; omega)] at h9
    show ArrAt _ _ _ _
    rw [show bytesV (l.drop k) = (bytesV l).drop k from by simp [bytesV]]
    exact h9
theorem St.cutT {w : World} {M : List HP} {F : List Fact} {oa : Option Addr} {cap : Nat} {l : List UInt8} (k : Nat) (hc : l.length ≤ cap) (hF : ArrF oa (bytesV l) ∈ F) (h : St w M F) : St w M (ArrF (cutA oa 0 cap 1) (bytesV (l.take k)) :: F) :=
  h.derive fun K hf => by
    have h9 := ArrAt.cut (size := 1) (cap := cap) (n := l.length) (hf _ hF) 0 (min k l.length) (by rw [bytesV_length, Nat.mul_one]) (Nat.min_le_right _ _) hc
    simp only [Nat.mul_one, List.drop_zero] at h9
    show ArrAt _ _ _ _
    have e : bytesV (l.take k) = (bytesV l).take (min k l.length) := by
      rw [show bytesV (l.take k) = (bytesV l).take k from by simp [bytesV]]
      rcases Nat.le_total k l.length with h1 | h1
      · rw [Nat.min_eq_left h1]
      · rw [Nat.min_eq_right h1, List.take_of_length_le (by rw [bytesV_length]; omega), List.take_of_length_le (by rw [bytesV_length]; omega)]
    rw [e]
    exact h9
end Go.GL

namespace Go.GL
set_option linter.unusedVariables false
/-- what an iterator says that hands over, with each thing it yields, what is owned of it -/
def IterO (P : Program) (gf : FuncId) (cap : List Value) {α : Type} (enc : α → List Value → Prop) (own : α → List Value → List HP) (xs : List α) (F : List Fact) : Prop :=
  ∀ (l : Nat) (J : List α → List HP),
    (∀ pre x suf args, xs = pre ++ x :: suf → enc x args → ∀ Mi G, (∀ φ, φ ∈ F → φ ∈ G) → YSpec P l args ((own x args ++ J pre) ++ Mi) G (J (pre ++ [x]) ++ Mi)) →
    ∀ Mi G, (∀ φ, φ ∈ F → φ ∈ G) → Ctr P gf (.func (.yield l) #[] #[] :: cap) (J [] ++ Mi) G Unit (fun _ => .tuple #[]) (fun _ => J xs ++ Mi) (fun _ => G)
section
variable {P : Program} {r : Option Nat} {N : Nat} {ops : Array Oper} {rest : List Oper} {Q : Exit → Act → World → Prop} {E : Env} {ds : List Deferred} {M : List HP} {F : List Fact}
/-- A LOOP OVER A FUNCTION whose body never leaves it. -/
theorem TR.rangeFuncO {α : Type} {g : Operand} {ps : List Nat} {assign body : Code} {gf : FuncId} {cap : List Value} {enc : α → List Value → Prop} {xs : List α} {κ : Type}
    (hg : evalO E g = some (.func (.func gf) #[] cap.toArray)) (hcall : ∀ args w, (callFunc gf args).run P w = .ok (.enter gf args) w) (hps : ∀ p, p ∈ ps → Nat.ble (p + 1) N = true) (hlen : ∀ x args, enc x args → args.length = ps.length)
    {own : α → List Value → List HP} (hit : IterO P gf cap enc own xs F) (J : List α → List HP) (Mr : List HP) (hJ : ∀ w, St w M F → St w (J [] ++ Mr) F)
    (E1 : List α → α → List Value → κ → Env) (M1 : List α → α → List Value → κ → List HP)
    (hassign : ∀ l pre x suf args, xs = pre ++ x :: suf → enc x args → ∀ Mi G, (∀ φ, φ ∈ F → φ ∈ G) →
      TR P (some l) N assign (Exit.then (fun a w => ∃ i, Sat N (E1 pre x args i) [] a ∧ St w (M1 pre x args i ++ Mi) G) (fun _ _ _ => False)) (envAt ps args E) [] ((own x args ++ J pre) ++ Mi) G)
    (hbody : ∀ l pre x suf args i, xs = pre ++ x :: suf → enc x args → ∀ Mi G, (∀ φ, φ ∈ F → φ ∈ G) →
      TR P (some l) N body (RoundQ (J (pre ++ [x]) ++ Mi) G) (E1 pre x args i) [] (M1 pre x args i ++ Mi) G)
    (k : ∀ D, NX N .normal Q E ({ target := .collected D, args := #[] } :: ds) (Pts D (.deferred (some [])) :: (J xs ++ Mr)) F) :
    TR P none N (.rangeFunc g ps.toArray assign body) Q E ds M F := by
  intro a w ha hw
  refine wpIn_rangeFunc fun fn _ => ?_
  obtain ⟨rec, hrec⟩ : ∃ rec : LoopState → Option Code → Loop, rec = fun st pe => { state := st, pending := pe, fn, tmps := a.tmps, params := ps.toArray, assign, body, defers := w.heap.size } := ⟨_, rfl⟩
  obtain ⟨W1, hW1⟩ : ∃ W1, W1 = (w.alloc (.deferred (some []))).alloc (.loop (rec .ready none)) := ⟨_, rfl⟩
  have h1 : St W1 (Pts (w.heap.size + 1) (.loop (rec .ready none)) :: Pts w.heap.size (.deferred (some [])) :: (J [] ++ Mr)) F := by
    have := ((hJ w hw).alloc (.deferred (some []))).alloc (.loop (rec .ready none))
    rw [World.size_alloc] at this
    rw [hW1]
    exact this
  refine ⟨w.heap.size + 1, [{ target := .collected w.heap.size, args := #[] }], W1, { target := .fn (.func gf) cap.toArray, args := #[.func (.yield (w.heap.size + 1)) #[] #[]] }, W1, gf,
    (.func (.yield (w.heap.size + 1)) #[] #[] :: cap).toArray, W1, ?_, ?_, fun _ _ => trivial, ?_, fun h => by simp at h, ?_⟩
  · rw [hW1, hrec]; exact run_enterLoop_outer _ _ _ _ _
  · have e0 := ha.eval hg
    have e1 : a.eval (.const (.func (.yield (w.heap.size + 1)) #[] #[])) = .func (.yield (w.heap.size + 1)) #[] #[] := rfl
    simp only [resolve, e0, Deferred.ofValue]
    simp [e1]
  · simp [invoke, hcall]
  · have hJ' := hit (w.heap.size + 1) (fun pre => Pts (w.heap.size + 1) (.loop (rec .ready none)) :: J pre) ?_ (Pts w.heap.size (.deferred (some [])) :: Mr) F (fun _ h => h)
    · have hp : ∀ (r : HP) (L : List HP), (r :: Pts w.heap.size (.deferred (some [])) :: (L ++ Mr)).Perm ((r :: L) ++ (Pts w.heap.size (.deferred (some [])) :: Mr)) := fun r L => (List.perm_middle.symm).cons r
      obtain ⟨hF, hc⟩ := hJ' _ (h1.perm (hp _ _))
      refine ⟨hF, fun cs hr => ?_⟩
      obtain ⟨e, w', fr, ⟨_, he, hst⟩, rest'⟩ := hc cs hr
      subst he
      refine ⟨_, w', fr, ?_, rest'⟩
      have hst' := hst.perm (hp _ _).symm
      have hl := hst'.heap (i := 0) rfl
      refine ⟨none, _, by have := run_endLoop (P := P) hl (by rw [hrec]; simp); rw [hrec] at this; exact this, ?_⟩
      exact k w.heap.size _ _ (ha.ends _) ((hst'.putObj (i := 0) rfl).tail) |> fun h => by rw [ha.defers]; exact h
    · intro pre x suf args hx he Mi G hG W hW
      have hW : St W (Pts (w.heap.size + 1) (.loop (rec .ready none)) :: ((own x args ++ J pre) ++ Mi)) G := hW.perm (List.Perm.append_right Mi (List.perm_middle (l₁ := own x args) (a := Pts (w.heap.size + 1) (.loop (rec .ready none))) (l₂ := J pre)))
      have hl := hW.heap (i := 0) rfl
      have hy := run_yield (P := P) (args := args.toArray) hl (by rw [hrec]; simp [hlen x args he])
      rw [hrec] at hy
      refine ⟨fn, _, assign, body, hy, roundIn_of_wpIn (F := Wd none) trivial ?_⟩
      have hS : Sat N (envAt ps args E) [] ⟨(ps.zip args).foldl (fun t (p, v) => t.setIfInBounds p v) a.tmps, []⟩ := Sat.params ps args (ha.ends []) hps
      have hz : ((ps.toArray.zip args.toArray).foldl (fun tmps (t, a) => tmps.setIfInBounds t a) a.tmps) = (ps.zip args).foldl (fun t (p, v) => t.setIfInBounds p v) a.tmps := by simp
      have hper : ∀ (r : HP) (L L' : List HP), (r :: (L ++ L')).Perm (L ++ (r :: L')) := fun r L L' => List.perm_middle.symm
      refine wpIn_mono (hassign (w.heap.size + 1) pre x suf args hx he (Pts (w.heap.size + 1) (.loop (rec .ready none)) :: Mi) G hG _ W (by simp only; rw [hz]; exact hS) (hW.perm (hper _ _ _))) ?_
      intro e a1 w1 hq
      cases e with
      | normal =>
        obtain ⟨i, hs1, hw1⟩ := hq
        have hw1' := hw1.perm (hper _ _ _).symm
        have hl1 := hw1'.heap (i := 0) rfl
        refine ⟨_, run_beginRound hl1 (by rw [hrec]), ?_⟩
        have hw2 := (hw1'.putObj (o' := .loop { rec .ready none with state := .busy }) (i := 0) rfl)
        refine wpIn_mono (hbody (w.heap.size + 1) pre x suf args i hx he (Pts (w.heap.size + 1) (.loop { rec .ready none with state := .busy }) :: Mi) G hG a1 _ hs1 (hw2.perm (hper _ _ _))) ?_
        intro e a3 w3 hq3
        cases e with
        | normal =>
          have hw3 : St w3 (J (pre ++ [x]) ++ (Pts (w.heap.size + 1) (.loop { rec .ready none with state := .busy }) :: Mi)) G := hq3
          have hw3' := hw3.perm (hper _ _ _).symm
          have hl3 := hw3'.heap (i := 0) rfl
          refine ⟨_, _, run_endRound none hl3, (), rfl, ?_⟩
          have := hw3'.putObj (o' := .loop { rec .ready none with state := .ready }) (i := 0) rfl
          rw [hrec] at this ⊢
          exact this
        | _ => exact hq3.elim
      | _ => exact hq.elim
end
end Go.GL

namespace Go.GL
set_option linter.unusedVariables false
/-! ### Scans -/
theorem frameJ_pos (i : Int) (x : List UInt8) : 0 < (frameJ i x).length := by
  have := encU_pos (hashN jl (coreJ i x))
  unfold frameJ
  rw [List.length_append]; omega
def framesJ : Nat → List (List UInt8) → List UInt8
  | _, [] => []
  | i, x :: xs => frameJ (i : Int) x ++ framesJ (i + 1) xs
def scanJ (i : Nat) (b : List UInt8) : List (List UInt8) :=
  if h : b ≠ [] ∧ frameJ (i : Int) (recOf b) <+: b then recOf b :: scanJ (i + 1) (b.drop (frameJ (i : Int) (recOf b)).length) else []
termination_by b.length
decreasing_by
  have h1 := frameJ_pos (i : Int) (recOf b)
  have h2 : 0 < b.length := by
    cases b with
    | nil => exact absurd rfl h.1
    | cons x l => simp
  rw [List.length_drop]; omega
theorem scanJ_yes {i : Nat} {b : List UInt8} (h0 : b ≠ []) (h1 : frameJ (i : Int) (recOf b) <+: b) : scanJ i b = recOf b :: scanJ (i + 1) (b.drop (frameJ (i : Int) (recOf b)).length) := by
  rw [scanJ, dif_pos ⟨h0, h1⟩]
theorem scanJ_no {i : Nat} {b : List UInt8} (h1 : ¬ frameJ (i : Int) (recOf b) <+: b) : scanJ i b = [] := by
  rw [scanJ, dif_neg (fun h => h1 h.2)]
theorem scanJ_nil {i : Nat} : scanJ i [] = [] := by rw [scanJ, dif_neg (fun h => h.1 rfl)]
theorem framesJ_append : ∀ (xs ys : List (List UInt8)) (i : Nat), framesJ i (xs ++ ys) = framesJ i xs ++ framesJ (i + xs.length) ys
  | [], ys, i => by simp [framesJ]
  | x :: xs, ys, i => by
    rw [List.cons_append, framesJ, framesJ, framesJ_append xs ys, List.length_cons, List.append_assoc, show i + 1 + xs.length = i + (xs.length + 1) from by omega]
theorem framesJ_snoc (xs : List (List UInt8)) (x : List UInt8) (i : Nat) : framesJ i (xs ++ [x]) = framesJ i xs ++ frameJ ((i + xs.length : Nat) : Int) x := by
  rw [framesJ_append, framesJ, framesJ, List.append_nil]
theorem scanJ_split : ∀ (n : Nat) (b : List UInt8) (i : Nat), b.length ≤ n → ∃ rest, b = framesJ i (scanJ i b) ++ rest := by
  intro n
  induction n with
  | zero =>
    intro b i h
    have : b = [] := List.eq_nil_of_length_eq_zero (by omega)
    subst this
    exact ⟨[], by rw [scanJ_nil]; rfl⟩
  | succ n ih =>
    intro b i h
    by_cases h1 : b ≠ [] ∧ frameJ (i : Int) (recOf b) <+: b
    · rw [scanJ_yes h1.1 h1.2, framesJ]
      obtain ⟨t, ht⟩ := h1.2
      have e : b.drop (frameJ (i : Int) (recOf b)).length = t := (congrArg (List.drop (frameJ (i : Int) (recOf b)).length) ht).symm.trans List.drop_left
      have hp := frameJ_pos (i : Int) (recOf b)
      have hl := congrArg List.length ht
      rw [List.length_append] at hl
      obtain ⟨rest, hr⟩ := ih t (i + 1) (by omega)
      refine ⟨rest, ?_⟩
      rw [e, List.append_assoc, ← hr, ht]
    · exact ⟨b, by rw [scanJ, dif_neg h1]; rfl⟩
/-- records and numbers that fit -/
def FitJ (i : Nat) (xs : List (List UInt8)) : Prop := i + xs.length ≤ 9223372036854775807 ∧ ∀ x, x ∈ xs → x.length ≤ 4611686018427387000
theorem scanJ_frames : ∀ (xs : List (List UInt8)) (i : Nat) (rest : List UInt8), FitJ i xs → scanJ i (framesJ i xs ++ rest) = xs ++ scanJ (i + xs.length) rest
  | [], i, rest, _ => by simp [framesJ]
  | x :: xs, i, rest, h => by
    have hx := h.2 x (.head _)
    have h1 := h.1
    rw [List.length_cons] at h1
    have hr : recOf (framesJ i (x :: xs) ++ rest) = x := by
      rw [framesJ, List.append_assoc]; exact recOf_frame (by omega) (by omega) hx
    have hp : frameJ (i : Int) x <+: framesJ i (x :: xs) ++ rest := by rw [framesJ, List.append_assoc]; exact List.prefix_append _ _
    have hne : framesJ i (x :: xs) ++ rest ≠ [] := by
      intro e
      have := congrArg List.length e
      rw [framesJ] at this
      simp only [List.length_append, List.length_nil] at this
      have := frameJ_pos (i : Int) x
      omega
    rw [scanJ_yes hne (by rw [hr]; exact hp), hr]
    have e : (framesJ i (x :: xs) ++ rest).drop (frameJ (i : Int) x).length = framesJ (i + 1) xs ++ rest := by
      rw [framesJ, List.append_assoc, List.drop_left]
    rw [e, scanJ_frames xs (i + 1) rest ⟨by omega, fun y hy => h.2 y (.tail _ hy)⟩, List.length_cons, List.cons_append, show i + 1 + xs.length = i + (xs.length + 1) from by omega]
theorem scanJ_at {b : List UInt8} {xs : List (List UInt8)} {k : Nat} (hb : b = framesJ 0 xs ++ b.drop (framesJ 0 xs).length) (h : scanJ xs.length (b.drop (framesJ 0 xs).length) = []) : True := trivial
/-- what the reference finds at the beginning -/
def fstOf (b : List UInt8) : Option (List UInt8) :=
  if (rdRaw b 0).2.2 = 0 then (if (rdU (rdRaw b 0).1 0).2.2 = 0 then (if (rdRaw (rdU (rdRaw b 0).1 0).2.1 0).2.2 = 0 then some (rdRaw (rdU (rdRaw b 0).1 0).2.1 0).1 else none) else none) else none
theorem fstOf_frame {i : Int} {x rest : List UInt8} (h0 : -9223372036854775808 ≤ i) (h1 : i ≤ 9223372036854775807) (hx : x.length ≤ 4611686018427387000) : fstOf (frameJ i x ++ rest) = some x := by
  have hc := coreJ_len h0 h1 (x := x) (by omega)
  have e1 : rdRaw (frameJ i x ++ rest) 0 = (coreJ i x, encU (hashN jl (coreJ i x)) ++ rest, 0) := by
    unfold frameJ; rw [List.append_assoc]; exact rdRaw_enc (by omega) _
  have e2 : rdU (coreJ i x) 0 = (zz i, encR x, 0) := by unfold coreJ; exact rdU_enc (zz_lt h0 h1) _
  have e3 : rdRaw (encR x) 0 = (x, [], 0) := by have := rdRaw_enc (x := x) (by omega) []; rwa [List.append_nil] at this
  unfold fstOf
  rw [e1]
  simp only [e2, e3, if_true]
theorem fst_rec {i : Nat} {b : List UInt8} (hb : b.length ≤ 70368744177664) (hi : i ≤ 9223372036854775807) : (∃ x, fstOf b = some x ∧ frameJ (i : Int) x <+: b) ↔ frameJ (i : Int) (recOf b) <+: b := by
  have hlen : ∀ x, frameJ (i : Int) x <+: b → x.length ≤ 4611686018427387000 := by
    intro x hx
    have h1 := hx.length_le
    unfold frameJ encR coreJ encR at h1
    simp only [List.length_append] at h1
    omega
  constructor
  · rintro ⟨x, _, hx⟩
    obtain ⟨t, ht⟩ := hx
    have := recOf_frame (i := (i : Int)) (x := x) (rest := t) (by omega) (by omega) (hlen x ⟨t, ht⟩)
    rw [ht] at this
    rw [this]
    exact ⟨t, ht⟩
  · intro hx
    refine ⟨recOf b, ?_, hx⟩
    obtain ⟨t, ht⟩ := hx
    have := fstOf_frame (i := (i : Int)) (x := recOf b) (rest := t) (by omega) (by omega) (hlen _ ⟨t, ht⟩)
    rw [ht] at this
    exact this
theorem fst_eq {i : Nat} {b x : List UInt8} (hb : b.length ≤ 70368744177664) (hi : i ≤ 9223372036854775807) (h : fstOf b = some x) (hx : frameJ (i : Int) x <+: b) : x = recOf b := by
  have hlen : x.length ≤ 4611686018427387000 := by
    have h1 := hx.length_le
    unfold frameJ encR coreJ encR at h1
    simp only [List.length_append] at h1
    omega
  obtain ⟨t, ht⟩ := hx
  have := recOf_frame (i := (i : Int)) (x := x) (rest := t) (by omega) (by omega) hlen
  rw [ht] at this
  exact this.symm
theorem rdU_len {l : List UInt8} {e : Int} : (rdU l e).2.1.length ≤ l.length := by
  obtain ⟨p, hp⟩ := rdU_suf (l := l) (e := e)
  have := congrArg List.length hp
  rw [List.length_append] at this; omega
theorem rdRaw_len {l : List UInt8} {e : Int} : (rdRaw l e).1.length ≤ l.length := by
  have := rdU_len (l := l) (e := e)
  unfold rdRaw
  split
  · split
    · show ((rdU l e).2.1.take _).length ≤ _
      rw [List.length_take]; omega
    · exact Nat.zero_le _
  · exact Nat.zero_le _
theorem recOf_len {b : List UInt8} : (recOf b).length ≤ b.length := by
  unfold recOf
  refine Nat.le_trans rdRaw_len (Nat.le_trans rdU_len (Nat.le_trans rdRaw_len ?_))
  rw [List.length_take]; omega
theorem framesJ_len : ∀ (xs : List (List UInt8)) (i : Nat), xs.length ≤ (framesJ i xs).length
  | [], i => by simp
  | x :: xs, i => by
    have := framesJ_len xs (i + 1)
    have := frameJ_pos (i : Int) x
    rw [framesJ, List.length_append, List.length_cons]; omega
theorem framesJ_len2 (xs : List (List UInt8)) (k : Nat) (h : k ≤ xs.length) : k ≤ (framesJ 0 (xs.take k)).length := by
  have := framesJ_len (xs.take k) 0
  rw [List.length_take] at this; omega
theorem range_split {n k : Nat} (h : k < n) : List.range n = List.range k ++ k :: (List.range (n - (k + 1))).map (k + 1 + ·) := by
  have h1 : n = k + (n - k) := by omega
  conv => lhs; rw [h1, List.range_add]
  congr 1
  rw [show n - k = (n - (k + 1)) + 1 from by omega, List.range_succ_eq_map, List.map_cons, List.map_map]
  congr 1
  apply List.map_congr_left
  intro a _
  simp only [Function.comp_apply]; omega
theorem more_byte2 {n : Nat} : B8 ((128 + n % 128) % 256) = .int .u8 ((UInt8.ofNat (128 + n % 128)).toNat : Int) := by
  rw [u8_ofNat (by omega)]; congr 2; omega
theorem zz_neg {n : Int} (h : n < 0) (h0 : -9223372036854775808 ≤ n) : 2 * (u64of (-(n + 1))) + 1 = zz n ∧ 2 * (u64of (-(n + 1))) + 1 < 18446744073709551616 := by
  unfold zz u64of; rw [if_pos h]; omega
theorem zz_pos {n : Int} (h : ¬ n < 0) (h1 : n ≤ 9223372036854775807) : 2 * (u64of n) = zz n ∧ 2 * (u64of n) < 18446744073709551616 := by
  unfold zz u64of; rw [if_neg h]; omega
theorem uz_odd {z : Nat} (h : z % 2 = 1) : -((z / 2 : Nat) : Int) - 1 = uz z := by unfold uz; rw [if_pos h]
theorem uz_even {z : Nat} (h : ¬ z % 2 = 1) : ((z / 2 : Nat) : Int) = uz z := by unfold uz; rw [if_neg h]
/-- the words of a text as cells -/
def wordsV (l : List Nat) : List Value := l.map fun n => U n
theorem wordsV_length (l : List Nat) : (wordsV l).length = l.length := by simp [wordsV]
theorem wordsV_one (l : List Nat) : (wordsV l).all Value.oneCell' = true := by
  rw [List.all_eq_true]; intro v hv; obtain ⟨p, _, rfl⟩ := List.mem_map.1 hv; rfl
theorem wordsV_get {l : List Nat} {i : Nat} (h : i < l.length) : (wordsV l)[((i : Nat) : Int).toNat * 1]? = some (U l[i]) := by
  rw [Int.toNat_natCast, Nat.mul_one, wordsV, List.getElem?_map, List.getElem?_eq_getElem h]; rfl
theorem wordsV_ne {l : List Nat} {i : Nat} (h : i < l.length) : wordsV l ≠ [] := by
  intro e; have h9 := wordsV_length l; rw [e] at h9; simp at h9; omega
theorem wordsV_snoc (l : List Nat) (n : Nat) : wordsV (l ++ [n]) = wordsV l ++ [U n] := by simp [wordsV]
theorem word_down {b : List UInt8} {k m j : Nat} (hj : j < m) (hm : 8 * k + m ≤ b.length) (h8 : m ≤ 8) : 256 * wordN (((b.drop (8 * k)).take m).drop (j + 1)) + b[8 * k + j].toNat = wordN (((b.drop (8 * k)).take m).drop j) ∧ 256 * wordN (((b.drop (8 * k)).take m).drop (j + 1)) + b[8 * k + j].toNat < 18446744073709551616 := by
  have hl : ((b.drop (8 * k)).take m).length = m := word_len hm
  have e : ((b.drop (8 * k)).take m).drop j = b[8 * k + j] :: ((b.drop (8 * k)).take m).drop (j + 1) := by
    rw [List.drop_eq_getElem_cons (by omega)]
    congr 1
    rw [List.getElem_take, List.getElem_drop]
  have e2 : 256 * wordN (((b.drop (8 * k)).take m).drop (j + 1)) + b[8 * k + j].toNat = wordN (((b.drop (8 * k)).take m).drop j) := by
    rw [e, wordN]; omega
  refine ⟨e2, ?_⟩
  rw [e2]
  exact wordN_lt64 (by rw [List.length_drop]; omega)
theorem words_mem_lt {b : List UInt8} {i : Nat} (h : i < (wordsN b).length) : (wordsN b)[i] < 18446744073709551616 := by
  rw [wordsN_get h]; exact wordN_lt64 (by rw [List.length_take]; omega)
theorem tk_step {α : Type} {xs ys : List α} {k : Nat} (h : xs.take k = ys.take k) (h1 : k < xs.length) (h2 : k < ys.length) (e : xs[k] = ys[k]) : xs.take (k + 1) = ys.take (k + 1) := by
  rw [List.take_succ_eq_append_getElem h1, List.take_succ_eq_append_getElem h2, h, e]
theorem tk_ne {α : Type} {xs ys : List α} {k : Nat} (h1 : k < xs.length) (h2 : k < ys.length) (h : xs[k] ≠ ys[k]) : xs ≠ ys := fun e => by subst e; exact h rfl
theorem tk_all {α : Type} {xs ys : List α} {k : Nat} (h : xs.take k = ys.take k) (hk : ¬ k < xs.length) (hl : xs.length = ys.length) : xs = ys := by
  rw [List.take_of_length_le (by omega), List.take_of_length_le (by omega)] at h; exact h
theorem byte_ne {u v : UInt8} (h : (u.toNat : Int) ≠ (v.toNat : Int)) : u ≠ v := fun e => h (by rw [e])
theorem byte_inj {u v : UInt8} (h : (u.toNat : Int) = (v.toNat : Int)) : u = v := UInt8.toNat_inj.1 (by omega)
/-- what the reference's reader keeps -/
def refB (l : List UInt8) (e : Int) : List UInt8 := if (rdU l e).2.2 = 0 then (rdU l e).2.1 else l
def refR (l : List UInt8) (e : Int) : List UInt8 := if (rdRaw l e).2.2 = 0 then (rdRaw l e).2.1 else refB l e
theorem refB_len {l : List UInt8} {e : Int} : (refB l e).length ≤ l.length := by
  unfold refB; split
  · exact rdU_len
  · exact Nat.le_refl _
theorem rdU_at {l : List UInt8} (h : (rdU l 0).2.2 = 0) : refB l 0 = (rdU l 0).2.1 := by unfold refB; rw [if_pos h]
theorem rdRaw_e {l : List UInt8} {e : Int} (h : e ≠ 0) : rdRaw l e = ([], l, e) := by
  unfold rdRaw rdU
  rw [if_neg h]
  simp only
  rw [if_neg h]
theorem fstOf_eq {b : List UInt8} : fstOf b = if (rdRaw b 0).2.2 = 0 ∧ (rdRaw (refB (rdRaw b 0).1 0) (rdU (rdRaw b 0).1 0).2.2).2.2 = 0 then some (rdRaw (refB (rdRaw b 0).1 0) (rdU (rdRaw b 0).1 0).2.2).1 else none := by
  unfold fstOf
  by_cases h1 : (rdRaw b 0).2.2 = 0
  · rw [if_pos h1]
    by_cases h2 : (rdU (rdRaw b 0).1 0).2.2 = 0
    · rw [if_pos h2, rdU_at h2, h2]
      by_cases h3 : (rdRaw (rdU (rdRaw b 0).1 0).2.1 0).2.2 = 0
      · rw [if_pos h3, if_pos ⟨h1, h3⟩]
      · rw [if_neg h3, if_neg (fun h => h3 h.2)]
    · rw [if_neg h2, rdRaw_e h2, if_neg (fun h => h2 h.2)]
  · rw [if_neg h1, if_neg (fun h => h1 h.1)]
def okJ (i : Nat) (b : List UInt8) : Prop := frameJ (i : Int) (recOf b) <+: b
instance (i : Nat) (b : List UInt8) : Decidable (okJ i b) := by unfold okJ; infer_instance
def fstJ (i : Nat) (b : List UInt8) : List UInt8 := if okJ i b then recOf b else []
theorem fstJ_yes {i : Nat} {b : List UInt8} (h : okJ i b) : fstJ i b = recOf b := by unfold fstJ; rw [if_pos h]
theorem fstJ_no {i : Nat} {b : List UInt8} (h : ¬ okJ i b) : fstJ i b = [] := by unfold fstJ; rw [if_neg h]
theorem okJ_of {i : Nat} {b x : List UInt8} (hb : b.length ≤ 70368744177664) (hi : i ≤ 9223372036854775807) (h : fstOf b = some x) (hx : frameJ (i : Int) x <+: b) : okJ i b ∧ x = recOf b := by
  have e := fst_eq hb hi h hx
  refine ⟨?_, e⟩
  unfold okJ; rw [← e]; exact hx
theorem okJ_not {i : Nat} {b x : List UInt8} (hb : b.length ≤ 70368744177664) (hi : i ≤ 9223372036854775807) (h : fstOf b = some x) (hx : ¬ frameJ (i : Int) x <+: b) : ¬ okJ i b := by
  intro h1
  obtain ⟨y, hy, hp⟩ := (fst_rec hb hi).2 h1
  rw [h] at hy
  cases hy
  exact hx hp
theorem okJ_none {i : Nat} {b : List UInt8} (hb : b.length ≤ 70368744177664) (hi : i ≤ 9223372036854775807) (h : fstOf b = none) : ¬ okJ i b := by
  intro h1
  obtain ⟨y, hy, hp⟩ := (fst_rec hb hi).2 h1
  rw [h] at hy
  cases hy
theorem pre_take {f b : List UInt8} (h : f.length ≤ b.length) : decide (f = b.take f.length) = decide (f <+: b) :=
  decide_eq_decide.2 ⟨fun e => by rw [e]; exact List.take_prefix _ _, fun e => List.prefix_iff_eq_take.1 e⟩
theorem u8_wrap (v : Int) : Value.int .u8 (IntKind.u8.wrap v) = .int .u8 ((UInt8.ofNat (v % 256).toNat).toNat : Int) := by
  rw [u8_ofNat (by omega)]
  congr 1
  simp [IntKind.wrap, IntKind.bits, IntKind.signed]
  omega
/-! ### Lists of records in memory -/
abbrev Rc := List UInt8 × RdX
def listV (ps : List Rc) : List Value := ps.map fun p => .slice p.2.oa p.1.length p.2.c
def ownR (e : Nat) (p : Rc) : HP := OwnSl e 1 p.2.oa p.1.length p.2.c (bytesV p.1)
def AllB (ps : List Rc) : Fact := ⟨fun w K => ∀ p, p ∈ ps → ArrAt w K p.2.oa (bytesV p.1), fun h e p hp => (h p hp).mono e⟩
theorem listV_length (ps : List Rc) : (listV ps).length = ps.length := by simp [listV]
theorem listV_one (ps : List Rc) : (listV ps).all Value.oneCell' = true := by
  rw [List.all_eq_true]
  intro v hv
  obtain ⟨p, _, rfl⟩ := List.mem_map.1 hv
  rfl
theorem listV_get {ps : List Rc} {i : Nat} (h : i < ps.length) : (listV ps)[((i : Nat) : Int).toNat * 1]? = some (.slice ps[i].2.oa ps[i].1.length ps[i].2.c) := by
  rw [Int.toNat_natCast, Nat.mul_one, listV, List.getElem?_map, List.getElem?_eq_getElem h]; rfl
theorem listV_ne {ps : List Rc} {i : Nat} (h : i < ps.length) : listV ps ≠ [] := by
  intro e; have h9 := listV_length ps; rw [e] at h9; simp at h9; omega
theorem listV_append (a b : List Rc) : listV (a ++ b) = listV a ++ listV b := by simp [listV]
theorem St.allB_nil {w : World} {M : List HP} {F : List Fact} (h : St w M F) : St w M (AllB [] :: F) := h.addFact (AllB []) (fun K _ p hp => by cases hp)
theorem St.allB_get {w : World} {M : List HP} {F : List Fact} {ps : List Rc} {p : Rc} (hF : AllB ps ∈ F) (hp : p ∈ ps) (h : St w M F) : St w M (ArrF p.2.oa (bytesV p.1) :: F) := h.derive fun K hf => hf _ hF p hp
theorem St.allB_snoc {w : World} {M : List HP} {F : List Fact} {ps : List Rc} {p : Rc} (hF : AllB ps ∈ F) (hp : ArrF p.2.oa (bytesV p.1) ∈ F) (h : St w M F) : St w M (AllB (ps ++ [p]) :: F) := h.derive fun K hf q hq => by
  rcases List.mem_append.1 hq with h1 | h1
  · exact hf _ hF q h1
  · rw [List.mem_singleton.1 h1]; exact hf _ hp
theorem St.keepAll {w : World} {M : List HP} {F : List Fact} {e : Nat} : ∀ {ps : List Rc}, St w (ps.map (ownR e) ++ M) F → (∀ p, p ∈ ps → p.1.length ≤ p.2.c) ∧ St w M (AllB ps :: F)
  | [], h => ⟨fun p hp => absurd hp (by simp), h.allB_nil⟩
  | p :: ps, h => by
    have h0 : St w (OwnSl e 1 p.2.oa p.1.length p.2.c (bytesV p.1) :: (ps.map (ownR e) ++ M)) F := h
    have hlen := h0.ownLen.2
    obtain ⟨h1, h2⟩ := St.keepAll h0.keepSl
    refine ⟨fun q hq => ?_, ?_⟩
    · rcases List.mem_cons.1 hq with e1 | e1
      · rw [e1]; exact hlen
      · exact h1 q e1
    · have h3 := h2.derive (ψ := AllB (p :: ps)) (fun K hf q hq => by
        rcases List.mem_cons.1 hq with e1 | e1
        · rw [e1]; exact hf (ArrF p.2.oa (bytesV p.1)) (.tail _ (.head _))
        · exact hf (AllB ps) (.head _) q e1)
      exact h3.facts (fun φ h => by
        rcases List.mem_cons.1 h with e1 | h
        · subst e1; exact .head _
        · exact .tail _ (.tail _ (.tail _ h)))
/-- a variable that holds a list of records, each one's own -/
def RecsB (T e0 e b : Nat) (xs : List (List UInt8)) : HP := Ex (ι := {z : List Rc × Option Addr × Nat // z.1.map Prod.fst = xs}) fun z => Box b T [.slice z.1.2.1 z.1.1.length z.1.2.2] :: OwnSl e0 1 z.1.2.1 z.1.1.length z.1.2.2 (listV z.1.1) :: z.1.1.map (ownR e)
theorem St.recsNew {w : World} {M : List HP} {F : List Fact} {T e0 e b : Nat} (h : St w (Box b T [.slice none 0 0] :: M) F) : St w (RecsB T e0 e b [] :: M) F :=
  St.exClose (⟨([], none, 0), rfl⟩ : {z : List Rc × Option Addr × Nat // z.1.map Prod.fst = []}) ((OwnSl.nil_new e0 1 h).swap)
structure LsX where
  ps : List Rc
  oa : Option Addr
  c : Nat
/-! ### What a yield of a record hands over -/
def recEnc (xs : List (List UInt8)) : Nat → List Value → Prop := fun k args => ∃ r : RdX, args = [.slice r.oa (xs.getD k []).length r.c, I ((framesJ 0 (xs.take (k + 1))).length : Nat)]
theorem recEnc_len (xs : List (List UInt8)) (k : Nat) (args : List Value) (h : recEnc xs k args) : args.length = 2 := by obtain ⟨r, rfl⟩ := h; rfl
def recOwn (e : Nat) (xs : List (List UInt8)) : Nat → List Value → List HP := fun k args => match args with
  | [.slice oa n c, _] => [OwnSl e 1 oa n c (bytesV (xs.getD k []))]
  | _ => []
theorem range_pre {n k : Nat} {pre suf : List Nat} (h : List.range n = pre ++ k :: suf) : pre.length = k ∧ k < n := by
  have h1 : (List.range n)[pre.length]? = some k := by rw [h, List.getElem?_append_right (Nat.le_refl _)]; simp
  have h2 := List.getElem?_eq_some_iff.1 h1
  obtain ⟨h3, h4⟩ := h2
  rw [List.getElem_range] at h4
  rw [List.length_range] at h3
  exact ⟨h4, by omega⟩
theorem getD_get {xs : List (List UInt8)} {k : Nat} (h : k < xs.length) : xs.getD k [] = xs[k] := by rw [List.getD_eq_getElem?_getD, List.getElem?_eq_getElem h]; rfl
/-! ### Bounds of several kinds -/
section
variable {P : Program} {r : Option Nat} {N : Nat} {ops : Array Oper} {rest : List Oper} {Q : Exit → Act → World → Prop} {E : Env} {ds : List Deferred} {M : List HP} {F : List Fact}
variable {d : Nat} {ty : TypeId} {pos : String} {aft : Array Edge} {gd : Option (Nat × Bool)}
theorem RL.minU {x y : Operand} {a b : Nat} {aty : Array TypeId} (hg : wantedG ops E gd = some true) (hx : evalO E x = some (U a)) (hy : evalO E y = some (U b)) (hN : Nat.ble (d + 1) N = true) (k : RL P r N ops rest Q ((d, U (Min.min a b)) :: E) ds M F) : RL P r N ops (⟨some d, .call ⟨.builtin .min, #[x, y], aty⟩, ty, pos, aft, gd⟩ :: rest) Q E ds M F :=
  RL.min hg hx hy hN (by
    have e : Min.min (a : Int) (b : Int) = ((Min.min a b : Nat) : Int) := by omega
    rw [e]; exact k)
theorem RL.sliceToU {T e : TypeId} {x : Operand} {o : Operand} {oa : Option Addr} {n cap size h : Nat} {ik : IntKind} (hg : wantedG ops E gd = some true) (ht : tySlice P T e = true) (hz : tySize P e size = true) (hx : evalO E x = some (.slice oa n cap))
    (ho : evalO E o = some (.int ik (h : Int))) (h2 : h ≤ cap) (hN : Nat.ble (d + 1) N = true) (k : RL P r N ops rest Q ((d, .slice (cutA oa 0 cap size) h cap) :: E) ds M F) : RL P r N ops (⟨some d, .slice T x none (some o) none, ty, pos, aft, gd⟩ :: rest) Q E ds M F :=
  RL.val rfl hg hN (fun ρ hρ w _ => by
    simp [execOp, hρ _ _ hx, hρ _ _ ho, Instr.sliceAt, Instr.slice, Instr.sliceBounds, Instr.sliceBound, asIntOf, run_underlying (run_tySlice ht), run_sizeOf' hz, h2, cutA]) k
/-- a slice of bytes cut, and what is then known -/
theorem RL.sliceFromB {T e : TypeId} {x o : Operand} {oa : Option Addr} {cap k : Nat} {ik : IntKind} {l : List UInt8} (hg : wantedG ops E gd = some true) (ht : tySlice P T e = true) (hz : tySize P e 1 = true) (hx : evalO E x = some (.slice oa l.length cap))
    (ho : evalO E o = some (.int ik (k : Int))) (hk : k ≤ l.length) (hc : l.length ≤ cap) (hF : ArrF oa (bytesV l) ∈ F) (hN : Nat.ble (d + 1) N = true) (kk : RL P r N ops rest Q ((d, .slice (cutA oa k cap 1) (l.drop k).length (cap - k)) :: E) ds M (ArrF (cutA oa k cap 1) (bytesV (l.drop k)) :: F)) : RL P r N ops (⟨some d, .slice T x (some o) none none, ty, pos, aft, gd⟩ :: rest) Q E ds M F := by
  refine RL.weak (fun w hw => hw.cutB k hk hc hF) ?_
  refine RL.val rfl hg hN (fun ρ hρ w _ => ?_) kk
  have h4 : ¬ l.length < k := by omega
  rw [List.length_drop]
  simp [execOp, hρ _ _ hx, hρ _ _ ho, Instr.sliceAt, Instr.slice, Instr.sliceBounds, Instr.sliceBound, asIntOf, run_underlying (run_tySlice ht), run_sizeOf' hz, hk, cutA]
theorem RL.sliceToB {T e : TypeId} {x o : Operand} {oa : Option Addr} {cap k : Nat} {v : Int} {ik : IntKind} {l : List UInt8} (hg : wantedG ops E gd = some true) (ht : tySlice P T e = true) (hz : tySize P e 1 = true) (hx : evalO E x = some (.slice oa l.length cap))
    (ho : evalO E o = some (.int ik v)) (hv : v = ((l.take k).length : Int)) (hc : l.length ≤ cap) (hF : ArrF oa (bytesV l) ∈ F) (hN : Nat.ble (d + 1) N = true) (kk : RL P r N ops rest Q ((d, .slice (cutA oa 0 cap 1) (l.take k).length cap) :: E) ds M (ArrF (cutA oa 0 cap 1) (bytesV (l.take k)) :: F)) : RL P r N ops (⟨some d, .slice T x none (some o) none, ty, pos, aft, gd⟩ :: rest) Q E ds M F := by
  subst hv
  refine RL.weak (fun w hw => hw.cutT k hc hF) ?_
  exact RL.sliceToU hg ht hz hx ho (by rw [List.length_take]; omega) hN kk
theorem NX.retM2 {N : Nat} {fn : Func} {t u D : Nat} {v v' : Value} {ι : Type} {val : ι → Value} {M' : ι → List HP} {F' : ι → List Fact} (j : Nat) (i : ι) (hr : fn.results = #[.tmp t, .tmp u]) (ht : look E t = some v) (hu : look E u = some v') (hD : M[j]? = some (Pts D (.deferred (some [])))) (hv : .tuple #[v, v'] = val i) (hS : ∀ w, St w (M.eraseIdx j) F → St w (M' i) (F' i)) :
    NX N .ret (bodyPostM (Wd none) 0 P fn (Post val M' F')) E [{ target := .collected D, args := #[] }] M F := fun a w ha hw => by
  show LeavesInM _ _ _ _ _ _ a.defers .returning w
  rw [ha.defers]
  have hd := hw.heap hD
  refine ⟨by simp, .inl ⟨D, _, rfl, run_takeDeferred hd, .tuple #[v, v'], ?_, i, by rw [hv], hS _ ?_⟩⟩
  · rw [results_tmp2 hr]; simp [ha.get t v ht, ha.get u v' hu]
  · have h1 := hw.putObj (o' := .deferred none) hD
    have h2 : (M.set j (Pts D (.deferred none)))[j]? = some (Pts D (.deferred none)) := by
      rw [List.getElem?_set_self (List.getElem?_eq_some_iff.1 hD).1]
    have h3 := h1.drop j h2
    rwa [List.eraseIdx_set_eq] at h3
end
theorem St.recsSnoc {w : World} {M : List HP} {F : List Fact} {T e0 e b c : Nat} {oa : Option Addr} {ps : List Rc} {xs : List (List UInt8)} {x : List UInt8} {r : RdX} (hx : ps.map Prod.fst = xs)
    (h : St w (Box b T [.slice oa (ps.length + 1) c] :: OwnSl e0 1 oa (ps.length + 1) c (listV ps ++ [.slice r.oa x.length r.c]) :: (ps.map (ownR e) ++ (OwnSl e 1 r.oa x.length r.c (bytesV x) :: M))) F) : St w (RecsB T e0 e b (xs ++ [x]) :: M) F := by
  refine St.exClose (⟨(ps ++ [(x, r)], oa, c), by rw [List.map_append, hx]; rfl⟩ : {z : List Rc × Option Addr × Nat // z.1.map Prod.fst = xs ++ [x]}) ?_
  show St w ((Box b T [.slice oa (ps ++ [(x, r)]).length c] :: OwnSl e0 1 oa (ps ++ [(x, r)]).length c (listV (ps ++ [(x, r)])) :: (ps ++ [(x, r)]).map (ownR e)) ++ M) F
  rw [List.length_append, listV_append, List.map_append]
  have e1 : (Box b T [.slice oa (ps.length + [(x, r)].length) c] :: OwnSl e0 1 oa (ps.length + [(x, r)].length) c (listV ps ++ listV [(x, r)]) :: (ps.map (ownR e) ++ [(x, r)].map (ownR e))) ++ M = Box b T [.slice oa (ps.length + 1) c] :: OwnSl e0 1 oa (ps.length + 1) c (listV ps ++ [.slice r.oa x.length r.c]) :: (ps.map (ownR e) ++ (OwnSl e 1 r.oa x.length r.c (bytesV x) :: M)) := by
    simp only [List.cons_append, List.append_assoc]; rfl
  rw [e1]
  exact h
theorem St.recsOpen {w : World} {M : List HP} {F : List Fact} {T e0 e b : Nat} {xs : List (List UInt8)} (h : St w (RecsB T e0 e b xs :: M) F) : ∃ z : LsX, (z.ps.map Prod.fst = xs ∧ ∀ p, p ∈ z.ps → p.1.length ≤ p.2.c) ∧ St w (Box b T [.slice z.oa z.ps.length z.c] :: OwnSl e0 1 z.oa z.ps.length z.c (listV z.ps) :: M) (AllB z.ps :: F) := by
  obtain ⟨⟨⟨ps, oa, c⟩, hx⟩, h1⟩ := h.exOpen
  have h2 : St w (Box b T [.slice oa ps.length c] :: OwnSl e0 1 oa ps.length c (listV ps) :: (ps.map (ownR e) ++ M)) F := h1
  have h3 : St w (ps.map (ownR e) ++ (Box b T [.slice oa ps.length c] :: OwnSl e0 1 oa ps.length c (listV ps) :: M)) F := h2.perm (by
    refine List.Perm.trans ?_ (perm_mid [Box b T [.slice oa ps.length c], OwnSl e0 1 oa ps.length c (listV ps)] (ps.map (ownR e)) M)
    exact List.Perm.refl _)
  obtain ⟨h4, h5⟩ := h3.keepAll
  exact ⟨⟨ps, oa, c⟩, ⟨hx, h4⟩, h5⟩
end Go.GL

namespace Go.GL
open Go.ChangeShapes Go.WideShapes Go.ChangeAt Go.RowKit Go.GL.Tree
/-- what was there stands as it stood -/
def OldF (W : World) : Fact := ⟨fun w K => Below W.heap.size W w ∧ ∀ b, b ∈ K → W.heap.size ≤ b, fun {w K w' K'} ⟨h1, h2⟩ e => by
  refine ⟨⟨e.os.trans h1.os, e.tape.trans h1.tape, e.output.trans h1.output, Nat.le_trans h1.size e.size, fun k hk => ?_⟩, fun b hb => ?_⟩
  · exact (e.same k (Nat.lt_of_lt_of_le hk h1.size) fun hkK => by have := h2 k hkK; omega).trans (h1.block k hk)
  · rcases e.keys b hb with h | h
    · exact h2 b h
    · exact Nat.le_trans h1.size h⟩
theorem OldF.start (W : World) : (OldF W).p W [] := ⟨Below.refl _ _, fun b hb => by cases hb⟩
theorem law_run {P : Program} {f : FuncId} {args : List Value} {W : World} {F : List Fact} {v : Value} (h : Ctr P f args [] (OldF W :: F) Unit (fun _ => v) (fun _ => []) (fun _ => OldF W :: F)) (hF : FAll F W []) :
    Calls P f args.toArray W fun e W' => e = .returned v ∧ Below W.heap.size W W' := by
  have h0 : St W [] (OldF W :: F) := ⟨[], rfl, List.nodup_nil, fun φ hφ => by
    rcases List.mem_cons.1 hφ with e | e
    · subst e; exact OldF.start W
    · exact hF φ e⟩
  have h1 : CallsIn Fence.wide 0 P f args.toArray W (Post (fun _ => v) (fun _ => []) (fun _ : Unit => OldF W :: F)) := h W h0
  refine (callsIn_wide.1 h1).mono ?_
  rintro e w' ⟨_, he, K, ho, _, hf⟩
  have hK : K = [] := ho
  subst hK
  exact ⟨he, (hf _ (.head _)).1⟩
section
variable {H : Type} {enc : TypeId × Value → H} {P : Program} {W W' : World}
theorem trodAll_below (hl : laidOutB P = true) : ∀ {ts : List TypeId} {vs : List Value} {ds : List (DataW H)} {ps : List MemPlace}, (ts.all fun t => P.readableRec t && Nat.ble (t + 1) P.types.size) = true →
    DataW.TrodAll enc P W 0 (fun _ => true) true ts vs ds ps → Below W.heap.size W W' → (∀ x, x ∈ ps → x.block < W.heap.size) → DataW.TrodAll enc P W' 0 (fun b => decide (b < W.heap.size)) true ts vs ds ps
  | [], [], [], _, _, h, _, _ => h
  | [], _ :: _, _, _, _, h, _, _ => h.elim
  | [], [], _ :: _, _, _, h, _, _ => h.elim
  | _ :: _, [], _, _, _, h, _, _ => h.elim
  | _ :: _, _ :: _, [], _, _, h, _, _ => h.elim
  | t :: ts, v :: vs, d :: ds, ps, ht, ⟨p, q, h1, h2, e⟩, hb, hlt => by
    simp only [List.all_cons, Bool.and_eq_true] at ht
    exact ⟨p, q, Below.trod hl ht.1.1 (Nat.le_of_ble_eq_true ht.1.2) h1 hb fun x hx => hlt x (by rw [e]; simp [hx]), trodAll_below hl ht.2 h2 hb fun x hx => hlt x (by rw [e]; simp [hx]), e⟩
/-- the row's promise: true, and the arguments as they read -/
theorem law_post {f : Func} {s : ChangeSpec} {args : Array Value} {ds gs : List (DataW H)} {before : List MemPlace} {tb : TypeId} (hl : laidOutB P = true) (hts : (f.params.toList.all fun t => P.readableRec t && Nat.ble (t + 1) P.types.size) = true)
    (hv : s.vars = []) (hres : f.resultTypes = #[tb]) (htb : P.underlying tb = some .bool) (hfn : s.fn H ds = { results := [.lit (.bool true)], args := ds }) (hW : DataW.Whole enc P f.params.toList s.vars false W args.toList ds gs before) (hb : Below W.heap.size W W') :
    s.post enc P f false true false false W args (.bool true) W' := by
  have hlt : ∀ x, x ∈ before → x.block < W.heap.size := fun x hx => by simpa using hW.lt x hx
  have hW' := hW
  obtain ⟨p, q, hA, hV, rfl, hfz, hnd⟩ := hW
  rw [hv] at hV
  obtain ⟨rfl, rfl⟩ := trodVars_none hV
  refine ⟨ds, [], p ++ [], [], p, [], hW', ?_, ?_, ?_, hb.frame _, fun h => by cases h⟩
  · rw [List.append_nil, hfn, hres]
    exact trodAll_mk1 (shut_bool htb _)
  · rw [List.append_nil, hfn]
    exact trodAll_below hl hts hA hb fun x hx => hlt x (by simp [hx])
  · rw [hv, List.append_nil, hfn]; exact rfl
end
/-! ### What comes in -/
section
variable {H : Type} {enc : TypeId × Value → H} {P : Program} {w : World}
theorem in_ints {t e : TypeId} {fuel : Nat} {cs : List Value} {x : DataW H × List MemPlace} (ht : P.underlying t = some (.slice e)) (he : P.underlying e = some (.int .i64)) (hc : P.cellsOf e = 1) (h : DataW.trod enc P w 0 (fun _ => true) true fuel t cs = some x) :
    ∃ (oa : Option Addr) (ca : Nat) (xs : List Int), cs = [.slice oa xs.length ca] ∧ ArrAt w [] oa (ints xs) ∧ xs.length ≤ ca ∧ ca ≤ maxLen ∧ ∀ x, x ∈ xs → -9223372036854775808 ≤ x ∧ x ≤ 9223372036854775807 := by
  rcases open_ints ht he hc h with ⟨h1, _⟩ | ⟨a, len, cap, zs, h1, _, h3, h4, h5, _, h7, h8⟩
  · exact ⟨none, 0, [], h1, .inl rfl, Nat.le_refl _, Nat.zero_le _, fun x hx => by cases hx⟩
  · have hl : (zs.take len).length = len := by rw [List.length_take]; simp only [if_true] at h5; omega
    refine ⟨some a, cap, zs.take len, by rw [hl]; exact h1, ?_, by omega, h4, fun z hz => ?_⟩
    · by_cases h0 : zs.take len = []
      · exact .inl (by rw [h0]; rfl)
      · have hpos : 0 < zs.length := by
          cases zs with
          | nil => simp at h0
          | cons z zs => simp
        have hc0 := h7 0 hpos
        have hsp : a.spot = none := by have := World.cell?_spot hc0; simpa [Addr.add] using this
        obtain ⟨b, off, sp⟩ := a
        simp only at hsp
        subst hsp
        refine .inr ⟨b, off, rfl, by simp, ?_, fun j v hj => ?_⟩
        · unfold World.cell? at hc0
          simp only [Addr.add, if_true] at hc0
          cases hh : w.heap[b]? with
          | none => rw [hh] at hc0; cases hc0
          | some o => exact (Array.getElem?_eq_some_iff.1 hh).1
        · rw [List.getElem?_map] at hj
          cases hz : (zs.take len)[j]? with
          | none => rw [hz] at hj; cases hj
          | some z =>
            rw [hz] at hj
            simp only [Option.map_some, Option.some.injEq] at hj
            subst hj
            rw [List.getElem?_take] at hz
            split at hz
            · have hjl := (List.getElem?_eq_some_iff.1 hz).1
              have := h7 j hjl
              rw [addr_add] at this
              rw [this]
              simp [List.getD, hz]
            · cases hz
    · have := h8 z (List.mem_of_mem_take hz)
      simp only [Lit.wf, Bool.and_eq_true, decide_eq_true_eq, IntKind.has] at this
      simp [IntKind.min, IntKind.max, IntKind.signed, IntKind.bits] at this
      omega
/-- a struct of two ints, a text and a slice of such structs -/
structure NodeTy (P : Program) (tn : Nat) (f0 f1 f2 f3 : Field) : Prop where
  hs : P.underlying tn = some (.struct #[f0, f1, f2, f3])
  o0 : f0.offset = 0
  o1 : f1.offset = 1
  o2 : f2.offset = 2
  o3 : f3.offset = 3
  t0 : P.underlying f0.type = some (.int .i64)
  t1 : P.underlying f1.type = some (.int .i64)
  t2 : P.underlying f2.type = some .string
  t3 : P.underlying f3.type = some (.slice tn)
  c0 : P.cellsOf f0.type = 1
  c1 : P.cellsOf f1.type = 1
  c2 : P.cellsOf f2.type = 1
  c3 : P.cellsOf f3.type = 1
  cn : P.cellsOf tn = 4
theorem kids_build {b off : Nat} : ∀ (n o : Nat), (∀ i, i < n → ∃ (t : Tree) (cs : List Value), CellsAt w [] b (off + (o + i) * 4) cs ∧ TreeAt w [] t (.agg cs.toArray)) → ∃ ts : List Tree, ts.length = n ∧ KidsAt w [] b (off + o * 4) ts
  | 0, o, _ => ⟨[], rfl, by simp only [KidsAt]⟩
  | n + 1, o, h => by
    obtain ⟨t, cs, h1, h2⟩ := h 0 (by omega)
    obtain ⟨ts, hl, h3⟩ := kids_build n (o + 1) fun i hi => by
      have := h (i + 1) (by omega)
      rw [show o + (i + 1) = o + 1 + i from by omega] at this
      exact this
    refine ⟨t :: ts, by simp [hl], ?_⟩
    simp only [KidsAt]
    rw [show off + (o + 1) * 4 = off + o * 4 + 4 from by omega] at h3
    exact ⟨⟨cs, by simpa using h1, h2⟩, h3⟩
theorem in_tree {tn : Nat} {f0 f1 f2 f3 : Field} (T : NodeTy P tn f0 f1 f2 f3) : ∀ (fuel : Nat) {cs : List Value} {x : DataW H × List MemPlace}, DataW.trod enc P w 0 (fun _ => true) true fuel tn cs = some x →
    ∃ (t : Tree) (a : Option Addr) (len cap : Nat), cs = nodeC t a len cap ∧ TreeAt w [] t (nodeV t a len cap) := by
  intro fuel
  induction fuel using Nat.strongRecOn with
  | _ fuel ih =>
    intro cs x h
    obtain ⟨xs, n, hn, _, hcl, hxl, hf⟩ := DataW.trod_struct T.hs h
    rw [T.cn] at hcl
    have hxl : xs.length = 4 := hxl
    match cs, hcl with
    | [v0, v1, v2, v3], _ =>
      have g0 := hf 0 f0 rfl
      have g1 := hf 1 f1 rfl
      have g2 := hf 2 f2 rfl
      have g3 := hf 3 f3 rfl
      rw [T.o0, T.c0] at g0
      rw [T.o1, T.c1] at g1
      rw [T.o2, T.c2] at g2
      rw [T.o3, T.c3] at g3
      simp only [List.drop, List.take] at g0 g1 g2 g3
      rw [List.getElem?_eq_getElem (by omega)] at g0 g1 g2 g3
      obtain ⟨i, e0, _⟩ := DataW.trod_int T.t0 g0
      obtain ⟨k, e1, _⟩ := DataW.trod_int T.t1 g1
      obtain ⟨s, e2, _⟩ := DataW.trod_string T.t2 g2
      simp only [List.cons.injEq, and_true] at e0 e1 e2
      subst e0 e1 e2
      rcases DataW.trod_slice T.t3 g3 with ⟨e3, _⟩ | ⟨a, len, cap, elems, rest, m, hm, e3, _, _, hl, hcm, hlen, hel, _, _⟩
      · simp only [List.cons.injEq, and_true] at e3
        subst e3
        refine ⟨.node i k s.data.toList [], none, 0, 0, rfl, ?_⟩
        exact leaf_at _ _ _
      · simp only [List.cons.injEq, and_true] at e3
        subst e3
        by_cases h0 : len = 0
        · subst h0
          refine ⟨.node i k s.data.toList [], some a, 0, cap, rfl, ?_⟩
          simp only [TreeAt]
          exact ⟨some a, 0, cap, rfl, rfl, hl, hcm, .inl rfl⟩
        · have each : ∀ i, i < len → ∃ cs', w.cells? 0 (a.add (i * 4)) 4 = some cs' ∧ ∃ y, DataW.trod enc P w 0 (fun _ => true) true m tn cs' = some y := by
            intro i hi
            have := hel i hi
            rw [T.cn, List.getElem?_eq_getElem (by omega)] at this
            obtain ⟨cs', h1, h2⟩ := Option.bind_eq_some_iff.1 this
            exact ⟨cs', h1, _, h2⟩
          obtain ⟨c0, hc0, _⟩ := each 0 (by omega)
          have hz := (World.cells?_some hc0).2.2 0 (by omega)
          have hl0 := (World.cells?_some hc0).2.1
          rw [List.getElem?_eq_getElem (by omega)] at hz
          have hsp : a.spot = none := by have := World.cell?_spot hz; simpa [Addr.add] using this
          obtain ⟨b, off, sp⟩ := a
          simp only at hsp
          subst hsp
          have hblt : b < w.heap.size := by
            unfold World.cell? at hz
            simp only [Addr.add, if_true, Nat.zero_mul] at hz
            cases hh : w.heap[b]? with
            | none => rw [hh] at hz; cases hz
            | some o => exact (Array.getElem?_eq_some_iff.1 hh).1
          obtain ⟨ts, htl, hts⟩ := kids_build (w := w) (b := b) (off := off) len 0 fun i hi => by
            obtain ⟨cs', h1, y, h2⟩ := each i hi
            obtain ⟨t, a', len', cap', e4, h5⟩ := ih m (by omega) h2
            refine ⟨t, cs', ⟨by simp, hblt, fun j v hv => ?_⟩, by rw [e4]; exact h5⟩
            obtain ⟨_, h6, h7⟩ := World.cells?_some h1
            have h8 := h7 j (by have := (List.getElem?_eq_some_iff.1 hv).1; omega)
            rw [addr_add, addr_add] at h8
            rw [Nat.zero_add]
            rw [h8]; exact hv
          refine ⟨.node i k s.data.toList ts, some ⟨b, off, none⟩, len, cap, rfl, ?_⟩
          simp only [TreeAt]
          exact ⟨some ⟨b, off, none⟩, len, cap, rfl, htl.symm, hl, hcm, .inr ⟨b, off, rfl, by simpa using hts⟩⟩
end
def isI64 (P : Program) (t : TypeId) : Bool := match P.underlying t with | some (.int .i64) => true | _ => false
def isSl (P : Program) (t e : TypeId) : Bool := match P.underlying t with | some (.slice u) => Nat.beq u e | _ => false
theorem isI64_is {P : Program} {t : TypeId} (h : isI64 P t = true) : P.underlying t = some (.int .i64) := by
  unfold isI64 at h
  split at h
  · rename_i he; exact he
  · cases h
theorem isSl_is {P : Program} {t e : TypeId} (h : isSl P t e = true) : P.underlying t = some (.slice e) := by
  unfold isSl at h
  split at h
  · rename_i u he; rw [he, Nat.eq_of_beq_eq_true h]
  · cases h
def nodeOk (P : Program) (tn : Nat) : Bool := match P.underlying tn with
  | some (.struct ⟨[f0, f1, f2, f3]⟩) => (Nat.beq f0.offset 0 && Nat.beq f1.offset 1 && Nat.beq f2.offset 2 && Nat.beq f3.offset 3) && (isI64 P f0.type && isI64 P f1.type && tyStr P f2.type && isSl P f3.type tn) &&
      (Nat.beq (P.cellsOf f0.type) 1 && Nat.beq (P.cellsOf f1.type) 1 && Nat.beq (P.cellsOf f2.type) 1 && Nat.beq (P.cellsOf f3.type) 1 && Nat.beq (P.cellsOf tn) 4)
  | _ => false
theorem nodeOk_ty {P : Program} {tn : Nat} (h : nodeOk P tn = true) : ∃ f0 f1 f2 f3, NodeTy P tn f0 f1 f2 f3 := by
  unfold nodeOk at h
  split at h
  · rename_i f0 f1 f2 f3 he
    simp only [Bool.and_eq_true] at h
    obtain ⟨⟨⟨⟨⟨a0, a1⟩, a2⟩, a3⟩, ⟨⟨b0, b1⟩, b2⟩, b3⟩, ⟨⟨⟨c0, c1⟩, c2⟩, c3⟩, c4⟩ := h
    exact ⟨f0, f1, f2, f3, he, Nat.eq_of_beq_eq_true a0, Nat.eq_of_beq_eq_true a1, Nat.eq_of_beq_eq_true a2, Nat.eq_of_beq_eq_true a3, isI64_is b0, isI64_is b1, tyStr_underlying b2, isSl_is b3,
      Nat.eq_of_beq_eq_true c0, Nat.eq_of_beq_eq_true c1, Nat.eq_of_beq_eq_true c2, Nat.eq_of_beq_eq_true c3, Nat.eq_of_beq_eq_true c4⟩
  · cases h
/-- a struct that is an argument -/
theorem in_node {H : Type} {enc : TypeId × Value → H} {P : Program} {W : World} {r : Reach} {b0 tn : Nat} {v : Value} {d : DataW H} {ps : List MemPlace} (hk : nodeOk P tn = true) (hval : Value.okWide P W r b0 tn v) (h : DataW.Trod enc P W 0 (fun _ => true) true tn v d ps) :
    ∃ (t : Tree) (a : Option Addr) (len cap : Nat), v = nodeV t a len cap ∧ TreeAt W [] t (nodeV t a len cap) := by
  obtain ⟨f0, f1, f2, f3, T⟩ := nodeOk_ty hk
  obtain ⟨fuel, hf⟩ := h
  obtain ⟨t, a, len, cap, e, ht⟩ := in_tree T fuel hf
  unfold Value.okWide at hval
  rw [T.hs] at hval
  obtain ⟨cs, rfl, _⟩ := hval
  refine ⟨t, a, len, cap, ?_, ht⟩
  have e : cs.toList = nodeC t a len cap := e
  rw [nodeV, ← e]
theorem in_ints1 {H : Type} {enc : TypeId × Value → H} {P : Program} {W : World} {r : Reach} {b0 t e : Nat} {v : Value} {d : DataW H} {ps : List MemPlace} (hs : isSl P t e = true) (he : isI64 P e = true) (hc : Nat.beq (P.cellsOf e) 1 = true) (hval : Value.okWide P W r b0 t v) (h : DataW.Trod enc P W 0 (fun _ => true) true t v d ps) :
    ∃ (oa : Option Addr) (ca : Nat) (xs : List Int), v = .slice oa xs.length ca ∧ ArrAt W [] oa (ints xs) ∧ xs.length ≤ ca ∧ ca ≤ maxLen ∧ ∀ x, x ∈ xs → -9223372036854775808 ≤ x ∧ x ≤ 9223372036854775807 := by
  obtain ⟨fuel, hf⟩ := h
  obtain ⟨oa, ca, xs, e1, h2⟩ := in_ints (isSl_is hs) (isI64_is he) (Nat.eq_of_beq_eq_true hc) hf
  refine ⟨oa, ca, xs, ?_, h2⟩
  cases v <;> simp [Value.cells] at e1 ⊢
  all_goals first | exact e1 | (exfalso; unfold Value.okWide at hval; rw [isSl_is hs] at hval; simp [Cell.okWide, Cell.ok, isSl_is hs] at hval)
end Go.GL

namespace Go.GL
set_option linter.unusedVariables false
open Go.ChangeShapes Go.WideShapes Go.ChangeAt Go.RowKit
theorem run_append2 {P : Program} {w : World} {t u ty e size bytes : Nat} (ht : tySlice P t e = true) (hu : noInt P u = true) (he : tyElem P e size bytes = true)
    {oa : Option Addr} {n cap : Nat} {xs : List Value} (hown : w.ownsRow 0 e size (.slice oa n cap) n xs) {y : Value} {m : Nat} {ys : List Value} (hy : Src P w size m y ys) (h63 : n + m ≤ 9223372036854775807) (hb : (n + m) * bytes ≤ 140737488355328) :
    ∃ oa' cap' w', (Builtin.append_ #[t, u] ty #[.slice oa n cap, y]).run P w = .ok (.slice oa' (n + m) cap') w' ∧ w'.ownsRow 0 e size (.slice oa' (n + m) cap') (n + m) (xs ++ ys) ∧ w.grownBy w' (oa.map (·.block)) ∧ (oa' = oa ∨ (oa' = some ⟨w.heap.size, 0, none⟩ ∧ ∀ k, k < w.heap.size → w'.heap[k]? = w.heap[k]?)) := by
  obtain ⟨i, z, hi, hsz, hby, hz, hzs⟩ := tyElem_info he
  have ht' := run_tySlice ht
  have hu' := noInt_is hu
  have hlen : (xs ++ ys).length = (n + m) * size := by rw [List.length_append, hown.1, hy.size, Nat.add_mul]
  by_cases hroom : n + m ≤ cap
  · rcases hown.2 with ⟨hv, h0⟩ | ⟨g, cap', cur, hv, _, hg, hnc, hcm, hcs, htake⟩
    · simp only [Value.slice.injEq] at hv
      obtain ⟨rfl, _, rfl⟩ := hv
      obtain rfl : m = 0 := by omega
      subst h0
      have hys : ys = [] := List.eq_nil_of_length_eq_zero (by simpa using hy.size)
      have hxs : xs = [] := List.eq_nil_of_length_eq_zero (by simpa using hown.1)
      subst hys; subst hxs
      refine ⟨none, 0, w, ?_, hown, ⟨rfl, rfl, rfl, Nat.le_refl _, fun _ _ _ => rfl⟩, .inl rfl⟩
      have hc := hy.cells
      have hl := hy.len
      rcases hu' with hu' | ⟨x, hu'⟩ <;> simp [Builtin.append_, run_underlying ht', run_underlying hu', sizeOf, typeInfo, hi, hsz, hl, hc]
    · simp only [Value.slice.injEq] at hv
      obtain ⟨rfl, _, rfl⟩ := hv
      have hfit : n * size + ys.length ≤ cur.size := by rw [hy.size, hcs, ← Nat.add_mul]; exact Nat.mul_le_mul_right _ hroom
      have hst := run_storeCells_at P g (n * size) e ys 0 cur w hg (by simpa using hfit) hy.one
      simp only [Nat.add_zero] at hst
      refine ⟨some ⟨g, 0, none⟩, cap, w.setRow g (cur.toList.take (n * size) ++ ys ++ cur.toList.drop (n * size + ys.length)).toArray, ?_, ⟨hlen, .inr ⟨g, cap, _, rfl, Nat.zero_le _, setRow_heap w g cur _ e _ hg, hroom, hcm, ?_, ?_⟩⟩, ⟨rfl, rfl, rfl, by simp, fun k _ hk => setRow_other w g k _ (fun e => hk (by simp [e]))⟩, .inl rfl⟩
      · have hc := hy.cells
        have hl := hy.len
        rcases hu' with hu' | ⟨x, hu'⟩ <;> simp [Builtin.append_, run_underlying ht', run_underlying hu', sizeOf, typeInfo, hi, hsz, hl, hc, hroom, Addr.add_lit, hst]
      · simp only [List.size_toArray, List.length_append, List.length_take, List.length_drop, Array.length_toList]
        omega
      · rw [htake, ← hlen]
        exact List.take_left
  · have hn : ¬ (n + m ≤ cap) := hroom
    have h63' : ¬ (9223372036854775807 < ((n : Int) + (m : Int))) := by omega
    have h48 := growslice_fits (need := n + m) (old := cap) (by omega) hb
    have h48' : ¬ (281474976710656 < Builtin.nextslicecap (n + m) cap * bytes) := by omega
    have hold : (Builtin.firstCells size n (.slice oa n cap)).run P w.drew = .ok xs.toArray w.drew := by
      rcases hown.2 with ⟨hv, h0⟩ | ⟨g, cap', cur, hv, _, hg, _⟩
      · simp only [Value.slice.injEq] at hv
        obtain ⟨rfl, _, rfl⟩ := hv
        subst h0
        have hxs : xs = [] := List.eq_nil_of_length_eq_zero (by simpa using hown.1)
        subst hxs
        simp [Builtin.firstCells]
      · simp only [Value.slice.injEq] at hv
        obtain ⟨rfl, _, rfl⟩ := hv
        exact run_firstCells_some (P := P) w.drew size n ⟨g, 0, none⟩ n cap xs hown.1 (fun j u hu => by
          have := hown.cells (g := g) rfl j u hu
          simpa using this)
    refine ⟨some ⟨w.heap.size, 0, none⟩, grownCap w (n + m) cap e, w.drew.alloc (.cells (xs.toArray ++ ys.toArray ++ Builtin.zeroCells z.cells (grownCap w (n + m) cap e - (n + m))) e), ?_, ⟨hlen, .inr ⟨w.heap.size, _, _, rfl, Nat.zero_le _, Go.GL.al_new w.drew _, grownCap_ge w _ _ e, grownCap_le_maxLen w _ _ e (by simpa [maxLen] using h63), ?_, ?_⟩⟩, ⟨rfl, rfl, rfl, by simp, fun k hk _ => Go.GL.al_old w.drew _ k hk⟩, .inr ⟨rfl, fun k hk => Go.GL.al_old w.drew _ k hk⟩⟩
    · have hl := hy.len
      have hc' := hy.cells'
      rcases hu' with hu' | ⟨x, hu'⟩ <;> simp [Builtin.append_, run_underlying ht', run_underlying hu', sizeOf, typeInfo, zeroValue, hi, hz, hsz, hby, hl, hn, h63', h48', Question.forced, hold, hc', newRow, grownCap] <;> (congr 2; apply Array.ext'; simp [List.append_assoc])
    · have hge := grownCap_ge w (n + m) cap e
      have hl2 : xs.length + ys.length = (n + m) * size := by rw [← List.length_append]; exact hlen
      simp only [Array.size_append, List.size_toArray, size_zeroCells, hzs]
      rw [hl2, ← Nat.add_mul]
      congr 1
      omega
    · simp only [Array.toList_append, List.append_assoc]
      rw [← List.append_assoc, ← hlen]
      exact List.take_left
theorem ArrAt.pre {w : World} {K : List Nat} {oa : Option Addr} {xs ys : List Value} (h : ArrAt w K oa (xs ++ ys)) : ArrAt w K oa xs := by
  rcases h with h | ⟨b, off, e, h1, h2, h3⟩
  · exact .inl (List.append_eq_nil_iff.1 h).1
  · exact .inr ⟨b, off, e, h1, h2, fun j v hv => h3 j v (by rw [List.getElem?_append_left (List.getElem?_eq_some_iff.1 hv).1]; exact hv)⟩
section
variable {P : Program} {r : Option Nat} {N : Nat} {ops : Array Oper} {rest : List Oper} {Q : Exit → Act → World → Prop} {E : Env} {ds : List Deferred} {M : List HP} {F : List Fact}
variable {d : Nat} {ty : TypeId} {pos : String} {aft : Array Edge} {gd : Option (Nat × Bool)}
/-- an append onto a slice of one's own: both the new and the old can be read from then on -/
theorem GV.appendK {x y : Operand} {T U e size bytes n cap m j : Nat} {aty : Array TypeId} {oa : Option Addr} {xs ys : List Value} {vy : Value} (ht : tySlice P T e = true) (hu : noInt P U = true) (he : tyElem P e size bytes = true)
    (hx : evalO E x = some (.slice oa n cap)) (hj : M[j]? = some (OwnSl e size oa n cap xs)) (hy : evalO E y = some vy) (hs : ∀ w, St w M F → Src P w size m vy ys) (h63 : n + m ≤ 9223372036854775807) (hb : (n + m) * bytes ≤ 140737488355328) (hT : aty = #[T, U] := by rfl) :
    GV P E M F ⟨some d, .call ⟨.builtin .append, #[x, y], aty⟩, ty, pos, aft, gd⟩ {i : Option Addr × Nat // n + m ≤ i.2} (fun i => .slice i.1.1 (n + m) i.1.2) (fun _ => M.eraseIdx j) (fun i => ArrF i.1.1 (xs ++ ys) :: ArrF oa xs :: F) := ⟨rfl, fun ρ hρ w hw => by
  subst hT
  have hsrc := hs w hw
  have hf := hw.front hj
  obtain ⟨K, ⟨K1, K2, hK, h1, ho2⟩, hn, hfa⟩ := hf
  obtain ⟨oa', cap', w', hr, hown, hgr, hat⟩ := run_append2 (ty := ty) ht hu he h1.1 hsrc h63 hb
  have hst : St w' (OwnSl e size oa' (n + m) cap' (xs ++ ys) :: M.eraseIdx j) F := by
    refine (hw.front hj).turn hgr.os hgr.tape hgr.output hgr.size fun K hK => ⟨_, ⟨hown, rfl⟩, ?_, fun b hb => ?_, fun b hb hn => hgr.block b hb fun e => ?_⟩
    · cases oa' <;> simp
    · rcases hat with rfl | ⟨rfl, _⟩
      · exact .inl (by rw [hK.2]; exact hb)
      · simp at hb; exact .inr (by omega)
    · cases oa with
      | none => cases e
      | some a =>
        simp only [Option.map_some, Option.some.injEq] at e
        exact hn (by rw [hK.2]; simp [e])
  have hlen := hst.ownLen.2
  refine ⟨⟨(oa', cap'), hlen⟩, w', ?_, ?_⟩
  · simp [execOp, resolve, hρ _ _ hx, hρ _ _ hy, invoke, builtin, hr]
  · rcases hat with rfl | ⟨hnew, hold⟩
    · have h9 := hst.keepSl
      have h8 := h9.derive (ψ := ArrF oa' xs) (fun K hf => (hf _ (.head _)).pre)
      exact h8.facts (fun φ h => by
        rcases List.mem_cons.1 h with e1 | h
        · subst e1; exact .tail _ (.head _)
        rcases List.mem_cons.1 h with e1 | h
        · subst e1; exact .head _
        · exact .tail _ (.tail _ h))
    · have h7 : St w (M.eraseIdx j) (ArrF oa xs :: F) := (hw.front hj).keepSl
      have h6 : St w' (OwnSl e size oa' (n + m) cap' (xs ++ ys) :: M.eraseIdx j) (ArrF oa xs :: F) := h7.new hgr.os hgr.tape hgr.output hgr.size hold (K' := [w.heap.size]) ⟨hown, by rw [hnew]⟩ (by simp) (by simp)
      exact h6.keepSl⟩
theorem rd_box {b t i : Nat} {cs : List Value} (hi : M[i]? = some (Box b t cs)) : Rd M F (some ⟨b, 0, none⟩) cs := fun w hw => .inr ⟨b, 0, rfl, by simp, (Array.getElem?_eq_some_iff.1 (hw.heap hi)).1, fun j v hv => by rw [Nat.zero_add, cell_of_box (hw.heap hi)]; exact hv⟩
end
/-! ### Bytes that come in -/
section
variable {H : Type} {enc : TypeId × Value → H} {P : Program} {w : World}
theorem in_bytes {t e : TypeId} {fuel : Nat} {cs : List Value} {x : DataW H × List MemPlace} (ht : P.underlying t = some (.slice e)) (he : P.underlying e = some (.int .u8)) (hc : P.cellsOf e = 1) (h : DataW.trod enc P w 0 (fun _ => true) true fuel t cs = some x) :
    ∃ (oa : Option Addr) (ca : Nat) (l : List UInt8), cs = [.slice oa l.length ca] ∧ ArrAt w [] oa (bytesV l) ∧ l.length ≤ ca ∧ ca ≤ maxLen := by
  rcases open_ints ht he hc h with ⟨h1, _⟩ | ⟨a, len, cap, zs, h1, _, h3, h4, h5, _, h7, h8⟩
  · exact ⟨none, 0, [], h1, .inl rfl, Nat.le_refl _, Nat.zero_le _⟩
  · have hl : (zs.take len).length = len := by rw [List.length_take]; simp only [if_true] at h5; omega
    refine ⟨some a, cap, (zs.take len).map fun z => UInt8.ofNat z.toNat, by rw [List.length_map, hl]; exact h1, ?_, by rw [List.length_map]; omega, h4⟩
    by_cases h0 : zs.take len = []
    · exact .inl (by rw [h0]; rfl)
    · have hpos : 0 < zs.length := by
        cases zs with
        | nil => simp at h0
        | cons z zs => simp
      have hc0 := h7 0 hpos
      have hsp : a.spot = none := by have := World.cell?_spot hc0; simpa [Addr.add] using this
      obtain ⟨b, off, sp⟩ := a
      simp only at hsp
      subst hsp
      refine .inr ⟨b, off, rfl, by simp, ?_, fun j v hj => ?_⟩
      · unfold World.cell? at hc0
        simp only [Addr.add, if_true] at hc0
        cases hh : w.heap[b]? with
        | none => rw [hh] at hc0; cases hc0
        | some o => exact (Array.getElem?_eq_some_iff.1 hh).1
      · rw [bytesV, List.getElem?_map, List.getElem?_map] at hj
        cases hz : (zs.take len)[j]? with
        | none => rw [hz] at hj; cases hj
        | some z =>
          rw [hz] at hj
          simp only [Option.map_some, Option.some.injEq] at hj
          subst hj
          have hzm : z ∈ zs := List.mem_of_mem_take (List.mem_of_getElem? hz)
          rw [List.getElem?_take] at hz
          split at hz
          · have hjl := (List.getElem?_eq_some_iff.1 hz).1
            have := h7 j hjl
            rw [addr_add] at this
            rw [this]
            have hr := h8 z hzm
            simp only [Lit.wf, Bool.and_eq_true, decide_eq_true_eq] at hr
            simp [IntKind.min, IntKind.max, IntKind.signed, IntKind.bits] at hr
            rw [u8_ofNat (by omega)]
            simp only [List.getD, hz, Option.getD_some]
            congr 2
            omega
          · cases hz
theorem in_bytes1 {W : World} {r : Reach} {b0 t e : Nat} {v : Value} {d : DataW H} {ps : List MemPlace} (hs : isSl P t e = true) (he : tyInt P e .u8 = true) (hc : Nat.beq (P.cellsOf e) 1 = true) (hval : Value.okWide P W r b0 t v) (h : DataW.Trod enc P W 0 (fun _ => true) true t v d ps) :
    ∃ (oa : Option Addr) (ca : Nat) (l : List UInt8), v = .slice oa l.length ca ∧ ArrAt W [] oa (bytesV l) ∧ l.length ≤ ca ∧ ca ≤ maxLen := by
  obtain ⟨fuel, hf⟩ := h
  obtain ⟨oa, ca, xs, e1, h2⟩ := in_bytes (isSl_is hs) (tyInt_is he) (Nat.eq_of_beq_eq_true hc) hf
  refine ⟨oa, ca, xs, ?_, h2⟩
  cases v <;> simp [Value.cells] at e1 ⊢
  all_goals first | exact e1 | (exfalso; unfold Value.okWide at hval; rw [isSl_is hs] at hval; simp [Cell.okWide, Cell.ok, isSl_is hs] at hval)
end
end Go.GL

namespace Go.Proofs.Ytkdeopioelocnaa
open Go.ChangeShapes Go.WideShapes Go.ChangeAt Go.RowKit Go.GL Go.GL.Tree
theorem own_ : ownKnob Try.prog.godebug = none := by kernel_rfl
theorem laidOut_ : laidOutB Try.prog = true := by kernel_rfl
theorem sl22 : isSl Try.prog 22 3 = true := by kernel_rfl
theorem i64_3 : isI64 Try.prog 3 = true := by kernel_rfl
theorem one3 : Nat.beq (Try.prog.cellsOf 3) 1 = true := by kernel_rfl
end Go.Proofs.Ytkdeopioelocnaa

namespace Go.GL
structure Ed where
  f : Int
  t : Int
  x : List UInt8
abbrev Ed.c (e : Ed) : List Value := [I e.f, I e.t, S e.x]
def edC : List Ed → List Value
  | [] => []
  | e :: es => e.c ++ edC es
theorem edC_length : ∀ es : List Ed, (edC es).length = es.length * 3
  | [] => rfl
  | e :: es => by rw [edC, List.length_append, edC_length es]; simp; omega
theorem edC_at : ∀ {es : List Ed} {k j : Nat} {v : Value} (h : k < es.length), (es[k].c)[j]? = some v → (edC es)[k * 3 + j]? = some v
  | e :: es, 0, j, v, h, hv => by
    rw [edC, Nat.zero_mul, Nat.zero_add, List.getElem?_append_left (by have := (List.getElem?_eq_some_iff.1 hv).1; simpa using this)]
    exact hv
  | e :: es, k + 1, j, v, h, hv => by
    rw [edC, List.getElem?_append_right (by simp; omega)]
    have := edC_at (es := es) (k := k) (j := j) (v := v) (by simpa using h) hv
    rw [← this]
    congr 1
    simp; omega
theorem edC_one : ∀ es : List Ed, (edC es).all Value.oneCell' = true
  | [] => rfl
  | e :: es => by
    rw [edC, List.all_append, edC_one es]; rfl
theorem edC_append : ∀ a b : List Ed, edC (a ++ b) = edC a ++ edC b
  | [], b => rfl
  | e :: es, b => by rw [List.cons_append, edC, edC, edC_append es b, List.append_assoc]
theorem run_ed {P : Program} {w : World} {K : List Nat} {b off T k : Nat} {es : List Ed} (h : CellsAt w K b off (edC es)) (ht : tyAgg P T 3 = true) (hk : k < es.length) : Reads P w T ⟨b, off + (k : Int).toNat * 3, none⟩ (.agg (es[k].c).toArray) := by
  refine run_loadVar_agg ht rfl fun j v hv => ?_
  rw [addr_add, Nat.add_assoc]
  exact h.2.2 _ v (edC_at hk hv)
/-- the first error of edits, from an offset on -/
def sound1 (size : Int) : Int → List Ed → Int
  | _, [] => 0
  | last, e :: es => if e.f < 0 ∨ e.t < e.f ∨ size < e.t then 5 else if e.f < last then 1 else sound1 size e.t es
def soundE (size : Int) (es : List Ed) : Int := if 64 < es.length then 4 else sound1 size 0 es
theorem sound1_cons {size last : Int} {e : Ed} {es : List Ed} (h : sound1 size last (e :: es) = 0) : 0 ≤ e.f ∧ e.f ≤ e.t ∧ e.t ≤ size ∧ last ≤ e.f ∧ sound1 size e.t es = 0 := by
  rw [sound1] at h
  by_cases h1 : e.f < 0 ∨ e.t < e.f ∨ size < e.t
  · rw [if_pos h1] at h; exact absurd h (by decide)
  · rw [if_neg h1] at h
    by_cases h2 : e.f < last
    · rw [if_pos h2] at h; exact absurd h (by decide)
    · rw [if_neg h2] at h
      exact ⟨by omega, by omega, by omega, by omega, h⟩
theorem sound1_bad {size last : Int} {e : Ed} {es : List Ed} (h1 : e.f < 0 ∨ e.t < e.f ∨ size < e.t) : sound1 size last (e :: es) = 5 := by rw [sound1, if_pos h1]
theorem sound1_low {size last : Int} {e : Ed} {es : List Ed} (h1 : ¬ (e.f < 0 ∨ e.t < e.f ∨ size < e.t)) (h2 : e.f < last) : sound1 size last (e :: es) = 1 := by rw [sound1, if_neg h1, if_pos h2]
theorem sound1_on {size last : Int} {e : Ed} {es : List Ed} (h1 : ¬ (e.f < 0 ∨ e.t < e.f ∨ size < e.t)) (h2 : ¬ e.f < last) : sound1 size last (e :: es) = sound1 size e.t es := by rw [sound1, if_neg h1, if_neg h2]
/-- the text behind edits, from an offset on -/
def applyGo (s : List UInt8) : Nat → List Ed → List UInt8
  | q, [] => s.drop q
  | q, e :: es => (s.take e.f.toNat).drop q ++ (e.x ++ applyGo s e.t.toNat es)
def applyE (s : List UInt8) (es : List Ed) : List UInt8 × Int := if soundE s.length es = 0 then (applyGo s 0 es, 0) else ([], soundE s.length es)
theorem soundE_sound1 {size : Int} {es : List Ed} (h : soundE size es = 0) : sound1 size 0 es = 0 := by
  unfold soundE at h
  split at h
  · exact absurd h (by decide)
  · exact h
/-- what Diff finds -/
structure DiffOk (a b : List UInt8) (es : List Ed) : Prop where
  one : es.length ≤ 1
  sound : sound1 a.length 0 es = 0
  apply : applyGo a 0 es = b
theorem diff_none {a b : List UInt8} (h : a = b) : DiffOk a b [] := ⟨by simp, rfl, by rw [h]; simp [applyGo]⟩
theorem drop_split {α : Type} {l : List α} {p n : Nat} (h : p ≤ n) : l.drop p = (l.take n).drop p ++ l.drop n := by
  conv => lhs; rw [← List.take_append_drop n l]
  rw [List.drop_append]
  congr 1
  rw [List.length_take]
  rcases Nat.le_total n l.length with h1 | h1
  · rw [Nat.min_eq_left h1, show p - n = 0 from by omega, List.drop_zero]
  · rw [List.drop_of_length_le h1]; simp
theorem diff_some {a b : List UInt8} {p q : Nat} (hp : a.take p = b.take p) (hpa : p + q ≤ a.length) (hpb : p + q ≤ b.length) (hq : a.drop (a.length - q) = b.drop (b.length - q)) :
    DiffOk a b [⟨p, (a.length - q : Nat), (b.take (b.length - q)).drop p⟩] := by
  refine ⟨by simp, ?_, ?_⟩
  · rw [sound1, if_neg (by simp only; omega), if_neg (by simp only; omega), sound1]
  · simp only [applyGo, Int.toNat_natCast, List.drop_zero]
    rw [hp, hq, ← drop_split (by omega), List.take_append_drop]
theorem suffix_step {a b : List UInt8} {q : Nat} (ha : q < a.length) (hb : q < b.length) (hq : a.drop (a.length - q) = b.drop (b.length - q)) (he : a[a.length - 1 - q] = b[b.length - 1 - q]) : a.drop (a.length - (q + 1)) = b.drop (b.length - (q + 1)) := by
  rw [show a.length - (q + 1) = a.length - 1 - q from by omega, show b.length - (q + 1) = b.length - 1 - q from by omega, List.drop_eq_getElem_cons (l := a) (i := a.length - 1 - q) (by omega), List.drop_eq_getElem_cons (l := b) (i := b.length - 1 - q) (by omega), he, show a.length - 1 - q + 1 = a.length - q from by omega, show b.length - 1 - q + 1 = b.length - q from by omega, hq]
theorem takeEq_step {a b : List UInt8} {p : Nat} (ha : p < a.length) (hb : p < b.length) (hp : a.take p = b.take p) (he : a[p] = b[p]) : a.take (p + 1) = b.take (p + 1) := by
  rw [List.take_succ_eq_append_getElem ha, List.take_succ_eq_append_getElem hb, hp, he]
theorem byte_eq {u v : UInt8} (h : (u.toNat : Int) = (v.toNat : Int)) : u = v := UInt8.toNat_inj.1 (by omega)
end Go.GL

namespace Go.GL
set_option linter.unusedVariables false
/-! ### Where characters begin -/
def isCont (s : List UInt8) (b : Nat) : Prop := ∃ c, s[b]? = some c ∧ 128 ≤ c.toNat ∧ c.toNat < 192
def IsB (s : List UInt8) (b : Nat) : Prop := b = 0 ∨ s.length ≤ b ∨ ¬ isCont s b
/-! ### Edits made one behind the other -/
/-- the edits so far end at an offset -/
def SoundTo (n : Int) (es : List Ed) (q : Int) : Prop := ∀ rest, sound1 n 0 (es ++ rest) = sound1 n q rest
theorem SoundTo.nil (n : Int) : SoundTo n [] 0 := fun _ => rfl
theorem SoundTo.snoc {n : Int} {es : List Ed} {q : Int} (h : SoundTo n es q) {e : Ed} (h0 : 0 ≤ q) (h1 : q ≤ e.f) (h2 : e.f ≤ e.t) (h3 : e.t ≤ n) : SoundTo n (es ++ [e]) e.t := fun rest => by
  rw [List.append_assoc, h, List.cons_append, List.nil_append, sound1_on (by omega) (by omega)]
theorem SoundTo.sound {n : Int} {es : List Ed} {q : Int} (h : SoundTo n es q) : sound1 n 0 es = 0 := by
  have := h []
  rw [List.append_nil] at this
  rw [this]; rfl
/-- an edit whose text is at most k bytes longer than what it takes away -/
def Grow (k : Nat) (e : Ed) : Prop := (e.x.length : Int) ≤ e.t - e.f + k
def txs (es : List Ed) : Nat := (es.map fun e => e.x.length).sum
theorem apply_len {s : List UInt8} {k : Nat} : ∀ {es : List Ed} {q : Nat}, q ≤ s.length → sound1 s.length q es = 0 → (∀ e, e ∈ es → Grow k e) → (applyGo s q es).length ≤ s.length - q + k * es.length ∧ txs es ≤ s.length - q + k * es.length
  | [], q, hq, _, _ => by simp [applyGo, txs]
  | e :: es, q, hq, hs, hg => by
    obtain ⟨h1, h2, h3, h4, h5⟩ := sound1_cons hs
    have hg1 := hg e (.head _)
    unfold Grow at hg1
    have ht : ((e.t.toNat : Nat) : Int) = e.t := Int.toNat_of_nonneg (by omega)
    have ih := apply_len (s := s) (k := k) (es := es) (q := e.t.toNat) (by omega) (by rw [ht]; exact h5) (fun x hx => hg x (.tail _ hx))
    have e1 : txs (e :: es) = e.x.length + txs es := by simp [txs]
    rw [e1, applyGo]
    simp only [List.length_append, List.length_drop, List.length_take, List.length_cons, Nat.mul_add, Nat.mul_one]
    omega
theorem mem_snoc_all {α : Type} {p : α → Prop} {l : List α} {a : α} (h : ∀ x, x ∈ l → p x) (ha : p a) : ∀ x, x ∈ l ++ [a] → p x := fun x hx => by
  rcases List.mem_append.1 hx with h1 | h1
  · exact h x h1
  · rw [List.mem_singleton.1 h1]; exact ha
/-! ### Their bytes -/
def encE (e : Ed) : List UInt8 := encU (zz e.f) ++ (encU (zz e.t) ++ encR e.x)
def encL : List Ed → List UInt8
  | [] => []
  | e :: es => encE e ++ encL es
def encEs (es : List Ed) : List UInt8 := encU (zz es.length) ++ encL es
theorem encL_append : ∀ a b : List Ed, encL (a ++ b) = encL a ++ encL b
  | [], b => rfl
  | e :: a, b => by rw [List.cons_append, encL, encL, encL_append a b, List.append_assoc]
theorem encL_snoc (a : List Ed) (e : Ed) : encL (a ++ [e]) = encL a ++ encU (zz e.f) ++ encU (zz e.t) ++ encR e.x := by
  rw [encL_append]; simp [encL, encE, List.append_assoc]
def EdOk (n : Int) (e : Ed) : Prop := 0 ≤ e.f ∧ e.f ≤ n ∧ 0 ≤ e.t ∧ e.t ≤ n
theorem sound_ok {n : Int} : ∀ {es : List Ed} {q : Int}, 0 ≤ q → sound1 n q es = 0 → ∀ e, e ∈ es → EdOk n e
  | [], _, _, _, e, he => absurd he (by simp)
  | a :: es, q, hq, hs, e, he => by
    obtain ⟨h1, h2, h3, h4, h5⟩ := sound1_cons hs
    rcases List.mem_cons.1 he with rfl | he
    · exact ⟨h1, by omega, by omega, h3⟩
    · exact sound_ok (by omega) h5 e he
theorem encL_len {n : Int} (hn : n ≤ 4611686018427387904) : ∀ {es : List Ed}, (∀ e, e ∈ es → EdOk n e ∧ e.x.length ≤ 4611686018427387904) → (encL es).length ≤ 30 * es.length + txs es
  | [], _ => by simp [encL, txs]
  | e :: es, h => by
    have ih := encL_len hn (es := es) fun x hx => h x (.tail _ hx)
    obtain ⟨⟨h1, h2, h3, h4⟩, h5⟩ := h e (.head _)
    have a1 := encU_len10 (zz_lt (n := e.f) (by omega) (by omega))
    have a2 := encU_len10 (zz_lt (n := e.t) (by omega) (by omega))
    have a3 := encU_len10 (n := e.x.length) (by omega)
    have e1 : txs (e :: es) = e.x.length + txs es := by simp [txs]
    rw [e1, encL, encE]
    unfold encR
    simp only [List.length_append, List.length_cons]
    omega
theorem encEs_len {s : List UInt8} {k : Nat} {es : List Ed} (hs : s.length ≤ 1000000) (h : sound1 s.length 0 es = 0) (hg : ∀ e, e ∈ es → Grow k e) (hk : k ≤ 1000) (hl : es.length ≤ 1000) : (encEs es).length ≤ 10 + (30 + k) * es.length + s.length := by
  have h1 := (apply_len (s := s) (k := k) (q := 0) (Nat.zero_le _) h hg).2
  have hb : k * es.length ≤ 1000000 := Nat.mul_le_mul hk hl
  have hx : ∀ es' : List Ed, ∀ e, e ∈ es' → e.x.length ≤ txs es' := by
    intro es'
    induction es' with
    | nil => intro e he; exact absurd he (by simp)
    | cons a l ih =>
      intro e he
      have e1 : txs (a :: l) = a.x.length + txs l := by simp [txs]
      rw [e1]
      rcases List.mem_cons.1 he with rfl | he
      · omega
      · have := ih e he; omega
  have h2 := encL_len (n := s.length) (by omega) (es := es) fun e he => ⟨sound_ok (Int.le_refl 0) h e he, by have := hx es e he; omega⟩
  have h3 := encU_len10 (zz_lt (n := (es.length : Int)) (by omega) (by omega))
  rw [Nat.add_mul]
  unfold encEs
  rw [List.length_append]
  omega
/-- what is written when k of them are -/
def wrL (es : List Ed) (k : Nat) : List UInt8 := encU (zz es.length) ++ encL (es.take k)
theorem wrL_zero (es : List Ed) : wrL es 0 = [] ++ encU (zz es.length) := by unfold wrL; simp [encL]
theorem wrL_succ {es : List Ed} {k : Nat} (h : k < es.length) : wrL es (k + 1) = ((wrL es k ++ encU (zz es[k].f)) ++ encU (zz es[k].t)) ++ encR es[k].x := by
  unfold wrL; rw [List.take_succ_eq_append_getElem h, encL_snoc]; simp only [List.append_assoc]
theorem wrL_all {es : List Ed} {k : Nat} (h : k = es.length) : wrL es k = encEs es := by subst h; unfold wrL encEs; rw [List.take_length]
theorem wrL_len (es : List Ed) (k : Nat) : (wrL es k).length ≤ (encEs es).length := by
  unfold wrL encEs
  have h : encL es = encL (es.take k) ++ encL (es.drop k) := by rw [← encL_append, List.take_append_drop]
  rw [h]; simp only [List.length_append]; omega
theorem encL_drop {es : List Ed} {k : Nat} (h : k < es.length) : encL (es.drop k) = encU (zz es[k].f) ++ (encU (zz es[k].t) ++ (encR es[k].x ++ encL (es.drop (k + 1)))) := by
  rw [List.drop_eq_getElem_cons h, encL, encE]; simp only [List.append_assoc]
theorem encL_dropLen (es : List Ed) (k : Nat) : (encL (es.drop k)).length ≤ (encEs es).length := by
  unfold encEs
  have h : encL es = encL (es.take k) ++ encL (es.drop k) := by rw [← encL_append, List.take_append_drop]
  rw [h]; simp only [List.length_append]; omega
theorem edC_take {es : List Ed} {k : Nat} (h : k < es.length) : edC (es.take (k + 1)) = edC (es.take k) ++ es[k].c := by
  rw [List.take_succ_eq_append_getElem h, edC_append]; simp [edC]
structure RkX where
  k : Nat
  oa : Option Addr
  c : Nat
  la : Option Addr
  lc : Nat
theorem rdI_enc {n : Int} (h0 : -9223372036854775808 ≤ n) (h1 : n ≤ 9223372036854775807) (rest : List UInt8) : uz (rdU (encU (zz n) ++ rest) 0).1 = n ∧ (rdU (encU (zz n) ++ rest) 0).2 = (rest, 0) := by
  rw [rdU_enc (zz_lt h0 h1)]
  exact ⟨uz_zz n, rfl⟩
end Go.GL

namespace Go.GL
set_option linter.unusedVariables false
def strsV (l : List (List UInt8)) : List Value := l.map fun x => S x
theorem strsV_length (l : List (List UInt8)) : (strsV l).length = l.length := by simp [strsV]
theorem strs_get {l : List (List UInt8)} {k : Nat} (h : k < l.length) : (strsV l)[((k : Nat) : Int).toNat * 1]? = some (S l[k]) := by
  rw [Int.toNat_natCast, Nat.mul_one]; simp [strsV, h]
theorem strsV_one (l : List (List UInt8)) : (strsV l).all Value.oneCell' = true := by simp [strsV, Value.oneCell']
theorem strsV_snoc (l : List (List UInt8)) (x : List UInt8) : strsV (l ++ [x]) = strsV l ++ [S x] := by simp [strsV]
theorem strsV_ne {l : List (List UInt8)} {k : Nat} (h : k < l.length) : strsV l ≠ [] := by
  intro e
  have := congrArg List.length e
  rw [strsV_length] at this
  simp at this
  subst this
  simp at h
theorem short_all {l : List (List UInt8)} {n : Nat} (h : (l.all fun x => Nat.ble x.length n) = true) {k : Nat} (hk : k < l.length) : l[k].length ≤ n :=
  Nat.le_of_ble_eq_true (List.all_eq_true.1 h _ (List.getElem_mem hk))
theorem St.boxKeep {w : World} {M : List HP} {F : List Fact} {b t : Nat} {cs : List Value} (h : St w (Box b t cs :: M) F) : St w M (CellsF b 0 cs :: F) := h.keep
/-- edits that are somewhere in memory -/
structure EdX where
  es : List Ed
  oa : Option Addr
  c : Nat
structure SmX where
  i : Nat
  q : Nat
  es : List Ed
  oa : Option Addr
  c : Nat
def EdsOk (tx : List UInt8) (es : List Ed) : Prop := es.length ≤ 5 ∧ sound1 tx.length 0 es = 0 ∧ ∀ e, e ∈ es → Grow 5 e
theorem EdsOk.sound {tx : List UInt8} {es : List Ed} (h : EdsOk tx es) : soundE tx.length es = 0 := by
  unfold soundE; rw [if_neg (by have := h.1; omega)]; exact h.2.1
theorem EdsOk.len {tx : List UInt8} {es : List Ed} (h : EdsOk tx es) : (applyGo tx 0 es).length ≤ tx.length + 25 := by
  have h1 := (apply_len (s := tx) (k := 5) (q := 0) (Nat.zero_le _) h.2.1 h.2.2).1
  have h2 := h.1
  omega
theorem EdsOk.enc {tx : List UInt8} {es : List Ed} (h : EdsOk tx es) (hl : tx.length ≤ 1000000) : (encEs es).length ≤ tx.length + 185 := by
  have h1 := encEs_len (s := tx) (k := 5) (es := es) hl h.2.1 h.2.2 (by decide) (by have := h.1; omega)
  have h2 := h.1
  omega
theorem cut_len {l : List UInt8} {a b : Nat} (h1 : a ≤ b) (h2 : b ≤ l.length) : ((l.take ((b : Nat) : Int).toNat).drop ((a : Nat) : Int).toNat).length = b - a := by
  rw [List.length_drop, List.length_take]; omega
/-- one more edit -/
theorem sm_step {tx : List UInt8} {es : List Ed} {q f t : Nat} {x : List UInt8} (h : SoundTo tx.length es q) (h1 : q ≤ f) (h2 : f ≤ t) (h3 : t ≤ tx.length) : SoundTo tx.length (es ++ [⟨f, t, x⟩]) (t : Nat) :=
  h.snoc (e := ⟨f, t, x⟩) (by omega) (by show (q : Int) ≤ f; omega) (by show (f : Int) ≤ t; omega) (by show (t : Int) ≤ _; omega)
theorem tmod_nn {a b : Int} (ha : 0 ≤ a) (hb : 0 < b) : ∃ k : Nat, a.tmod b = k ∧ (k : Int) < b := by
  refine ⟨(a.tmod b).toNat, ?_, ?_⟩
  · have := Int.tmod_nonneg b ha; omega
  · have := Int.tmod_lt_of_pos a hb; have := Int.tmod_nonneg b ha; omega
end Go.GL

namespace Go.GL
set_option linter.unusedVariables false
theorem ArrAt.cutGen {w : World} {K : List Nat} {oa : Option Addr} {cap size n : Nat} {xs : List Value} (k h : Nat) (hk : k ≤ h) (hh : h ≤ n) (hc : n ≤ cap) (hx : xs.length = n * size) (ha : ArrAt w K oa xs) : ArrAt w K (cutA oa k cap size) ((xs.take (h * size)).drop (k * size)) := by
  rcases ha with rfl | ⟨b, off, rfl, h1, h2, h3⟩
  · exact .inl (by simp)
  · by_cases h0 : (xs.take (h * size)).drop (k * size) = []
    · exact .inl h0
    · have hlt : k ≠ cap := by
        intro e
        apply h0
        have : h = k := by omega
        subst this
        rw [List.drop_of_length_le (by rw [List.length_take]; omega)]
      refine .inr ⟨b, off + k * size, ?_, h1, h2, fun j v hj => ?_⟩
      · unfold cutA; rw [if_neg (fun e => hlt e.symm)]; show some (Addr.add _ _) = _; rw [addr_add]
      · rw [Nat.add_assoc]
        refine h3 _ v ?_
        rw [List.getElem?_drop, List.getElem?_take] at hj
        split at hj
        · exact hj
        · cases hj
theorem St.cutG {w : World} {M : List HP} {F : List Fact} {oa : Option Addr} {cap size n : Nat} {xs : List Value} (k h : Nat) (hk : k ≤ h) (hh : h ≤ n) (hc : n ≤ cap) (hx : xs.length = n * size) (hF : ArrF oa xs ∈ F) (hw : St w M F) : St w M (ArrF (cutA oa k cap size) ((xs.take (h * size)).drop (k * size)) :: F) :=
  hw.derive (ψ := ArrF (cutA oa k cap size) ((xs.take (h * size)).drop (k * size))) fun K hf => ArrAt.cutGen k h hk hh hc hx (hf _ hF)
theorem ints_drop (l : List Int) (k : Nat) : ints (l.drop k) = (ints l).drop k := by simp [ints, List.map_drop]
theorem ints_take (l : List Int) (k : Nat) : ints (l.take k) = (ints l).take k := by simp [ints, List.map_take]
theorem St.cutI {w : World} {M : List HP} {F : List Fact} {oa : Option Addr} {cap : Nat} {l : List Int} (k : Nat) (hk : k ≤ l.length) (hc : l.length ≤ cap) (hF : ArrF oa (ints l) ∈ F) (hw : St w M F) : St w M (ArrF (cutA oa k cap 1) (ints (l.drop k)) :: F) := by
  have h1 := hw.cutG (size := 1) (n := l.length) k l.length hk (Nat.le_refl _) hc (by simp [ints]) hF
  rw [List.take_of_length_le (by simp [ints]), Nat.mul_one, ← ints_drop] at h1
  exact h1
section
variable {P : Program} {r : Option Nat} {N : Nat} {ops : Array Oper} {rest : List Oper} {Q : Exit → Act → World → Prop} {E : Env} {ds : List Deferred} {M : List HP} {F : List Fact}
variable {d : Nat} {ty : TypeId} {pos : String} {aft : Array Edge} {gd : Option (Nat × Bool)}
theorem RL.sliceFromI {T e : TypeId} {x o : Operand} {oa : Option Addr} {cap k : Nat} {v : Int} {l : List Int} (hg : wantedG ops E gd = some true) (ht : tySlice P T e = true) (hz : tySize P e 1 = true) (hx : evalO E x = some (.slice oa l.length cap))
    (ho : evalO E o = some (I v)) (hv : v = (k : Int)) (hk : k ≤ l.length) (hc : l.length ≤ cap) (hF : ArrF oa (ints l) ∈ F) (hN : Nat.ble (d + 1) N = true) (kk : RL P r N ops rest Q ((d, .slice (cutA oa k cap 1) (l.drop k).length (cap - k)) :: E) ds M (ArrF (cutA oa k cap 1) (ints (l.drop k)) :: F)) : RL P r N ops (⟨some d, .slice T x (some o) none none, ty, pos, aft, gd⟩ :: rest) Q E ds M F := by
  subst hv
  refine RL.weak (fun w hw => hw.cutI k hk hc hF) ?_
  refine RL.sliceLH (l := k) (h := l.length) hg ht hz hx (.inr ⟨o, rfl, ho⟩) (.inl ⟨rfl, rfl⟩) hk hc hN ?_
  rw [← List.length_drop]; exact kk
end
theorem drop_mem {l : List Int} {k : Nat} {x : Int} (h : x ∈ l.drop k) : x ∈ l := List.mem_of_mem_drop h
end Go.GL

namespace Go.GL
def HP.emp : HP := ⟨fun _ K => K = [], fun h _ => h, fun h b hb => by rw [h] at hb; cases hb⟩
def nthM : List HP → Nat → HP
  | [], _ => HP.emp
  | a :: _, 0 => a
  | _ :: l, n + 1 => nthM l n
def dropM : Nat → List HP → List HP
  | 0, l => l
  | _ + 1, [] => []
  | n + 1, _ :: l => dropM n l
/-- the parts at the places, then all from the k-th on -/
def pikM (M : List HP) (k : Nat) : List Nat → List HP
  | [] => dropM k M
  | i :: is => nthM M i :: pikM M k is
def nthF : List Fact → Nat → Fact
  | [], _ => ⟨fun _ _ => True, fun h _ => h⟩
  | a :: _, 0 => a
  | _ :: l, n + 1 => nthF l n
def dropF : Nat → List Fact → List Fact
  | 0, l => l
  | _ + 1, [] => []
  | n + 1, _ :: l => dropF n l
def pikF (F : List Fact) (k : Nat) : List Nat → List Fact
  | [] => dropF k F
  | i :: is => nthF F i :: pikF F k is
theorem dropM_eq : ∀ (M : List HP) (k : Nat), dropM k M = M.drop k
  | _, 0 => by simp [dropM]
  | [], _ + 1 => by simp [dropM]
  | _ :: l, k + 1 => by simp [dropM, dropM_eq l k]
theorem nthM_get : ∀ {M : List HP} {i : Nat} (h : i < M.length), nthM M i = M[i]
  | [], _, h => absurd h (by simp)
  | _ :: _, 0, _ => rfl
  | _ :: l, n + 1, h => by simp only [List.length_cons] at h; show nthM l n = _; rw [nthM_get (by omega)]; rfl
theorem nthM_big : ∀ {M : List HP} {i : Nat}, M.length ≤ i → nthM M i = HP.emp
  | [], _, _ => rfl
  | _ :: _, 0, h => absurd h (by simp)
  | _ :: l, n + 1, h => nthM_big (M := l) (by simp only [List.length_cons] at h; omega)
theorem nthF_mem (F : List Fact) (i : Nat) : nthF F i ∈ F ∨ ∀ w K, (nthF F i).p w K := by
  induction F generalizing i with
  | nil => exact .inr fun _ _ => trivial
  | cons a l ih =>
    cases i with
    | zero => exact .inl (.head _)
    | succ n => rcases ih n with h | h; exact .inl (.tail _ h); exact .inr h
theorem dropF_mem {φ : Fact} : ∀ {F : List Fact} {k : Nat}, φ ∈ dropF k F → φ ∈ F
  | _, 0, h => h
  | [], _ + 1, h => h
  | _ :: _, _ + 1, h => .tail _ (dropF_mem h)
theorem St.toF {w : World} {M : List HP} {F : List Fact} (k : Nat) (fs : List Nat) (h : St w M F) : St w M (pikF F k fs) := by
  obtain ⟨K, ho, hn, hf⟩ := h
  refine ⟨K, ho, hn, ?_⟩
  induction fs with
  | nil => exact fun φ hφ => hf φ (dropF_mem hφ)
  | cons i is ih =>
    intro φ hφ
    rcases List.mem_cons.1 hφ with e | e
    · subst e
      rcases nthF_mem F i with h | h
      · exact hf _ h
      · exact h w K
    · exact ih φ e
theorem St.emp {w : World} {M : List HP} {F : List Fact} (h : St w M F) : St w (HP.emp :: M) F := by
  obtain ⟨K, ho, hn, hf⟩ := h
  exact ⟨K, ⟨[], K, rfl, rfl, ho⟩, hn, hf⟩
theorem St.dropped {w : World} {F : List Fact} : ∀ {A B : List HP}, St w (A ++ B) F → St w B F
  | [], _, h => h
  | _ :: A, B, h => St.dropped (A := A) (B := B) (by simpa using h.tail)
/-- each place once, none beyond k -/
def okM (k : Nat) : List Nat → Bool
  | [] => true
  | i :: is => Nat.blt i k && !(is.any fun j => Nat.beq i j) && okM k is
theorem okM_is {k : Nat} : ∀ {is : List Nat}, okM k is = true → is.Nodup ∧ ∀ i, i ∈ is → i < k
  | [], _ => ⟨List.nodup_nil, fun _ h => absurd h (by simp)⟩
  | i :: is, h => by
    simp only [okM, Bool.and_eq_true] at h
    obtain ⟨h1, h2⟩ := okM_is h.2
    have h3 : i ∉ is := by
      intro hm
      have : is.any (fun j => Nat.beq i j) = true := List.any_eq_true.2 ⟨i, hm, Nat.beq_refl i⟩
      rw [this] at h
      exact absurd h.1.2 (by simp)
    refine ⟨List.nodup_cons.2 ⟨h3, h1⟩, fun j hj => ?_⟩
    rcases List.mem_cons.1 hj with e | e
    · subst e
      have := h.1.1
      simpa [Nat.blt_eq] using this
    · exact h2 j e
theorem range_map_get (M : List HP) (k : Nat) (hk : k ≤ M.length) : (List.range k).map (nthM M) = M.take k := by
  apply List.ext_getElem (by simp; omega)
  intro i h1 h2
  simp at h1
  simp [nthM_get (show i < M.length by omega)]
theorem pickM_eq (M : List HP) (k : Nat) : ∀ (is : List Nat), pikM M k is = is.map (nthM M) ++ M.drop k
  | [] => by simp [pikM, dropM_eq]
  | i :: is => by simp [pikM, pickM_eq M k is]
theorem nodup_subperm {is : List Nat} {k : Nat} (h1 : is.Nodup) (h2 : ∀ i, i ∈ is → i < k) : ∃ js, (is ++ js).Perm (List.range k) := by
  refine ⟨(List.range k).filter (fun j => decide (j ∉ is)), ?_⟩
  have hn : (is ++ (List.range k).filter (fun j => decide (j ∉ is))).Nodup := by
    refine List.nodup_append.2 ⟨h1, (List.nodup_range).sublist List.filter_sublist, ?_⟩
    intro a ha b hb e
    subst e
    have := (List.mem_filter.1 hb).2
    simp at this
    exact this ha
  refine (List.perm_ext_iff_of_nodup hn List.nodup_range).2 fun a => ?_
  constructor
  · intro h
    rcases List.mem_append.1 h with h | h
    · exact List.mem_range.2 (h2 a h)
    · exact (List.mem_filter.1 h).1
  · intro h
    by_cases ha : a ∈ is
    · exact List.mem_append.2 (.inl ha)
    · exact List.mem_append.2 (.inr (List.mem_filter.2 ⟨h, by simpa using ha⟩))
/-- beyond the end there is nothing -/
theorem St.pad {w : World} {M : List HP} {F : List Fact} (k : Nat) (h : St w M F) : St w ((List.range k).map (nthM M) ++ M.drop k) F := by
  by_cases hk : k ≤ M.length
  · rw [range_map_get M k hk, List.take_append_drop]; exact h
  · have e1 : (List.range k).map (nthM M) = M ++ List.replicate (k - M.length) HP.emp := by
      apply List.ext_getElem (by simp; omega)
      intro i h1 h2
      simp at h1
      by_cases hi : i < M.length
      · simp [List.getElem_append_left hi, nthM_get hi]
      · rw [List.getElem_append_right (by omega)]
        simp [nthM_big (M := M) (i := i) (by omega)]
    rw [e1, List.drop_eq_nil_of_le (by omega), List.append_nil]
    have : ∀ n, St w (List.replicate n HP.emp ++ M) F := by
      intro n
      induction n with
      | zero => simpa using h
      | succ n ih => simpa [List.replicate_succ] using ih.emp
    exact (this _).perm List.perm_append_comm
theorem St.toM {w : World} {M : List HP} {F : List Fact} (k : Nat) (is : List Nat) (ok : okM k is = true) (h : St w M F) : St w (pikM M k is) F := by
  obtain ⟨h1, h2⟩ := okM_is ok
  obtain ⟨js, hp⟩ := nodup_subperm h1 h2
  rw [pickM_eq]
  have h3 := h.pad k
  have h4 : ((List.range k).map (nthM M) ++ M.drop k).Perm (js.map (nthM M) ++ (is.map (nthM M) ++ M.drop k)) := by
    have := (hp.map (nthM M)).symm
    rw [List.map_append] at this
    refine (this.append_right _).trans ?_
    rw [← List.append_assoc]
    exact List.perm_append_comm.append_right _
  exact St.dropped (h3.perm h4)
/-- blocks and facts by their places; what is not named is let go -/
theorem St.to {w : World} {M : List HP} {F : List Fact} (k : Nat) (is : List Nat) (kf : Nat) (fs : List Nat) (ok : okM k is = true) (h : St w M F) : St w (pikM M k is) (pikF F kf fs) := (h.toM k is ok).toF kf fs
/-- all the k parts, each once: what a call takes stands ahead -/
theorem Ctr.pick {P : Program} {f : FuncId} {args : List Value} {M : List HP} {F : List Fact} {ι : Type} {val : ι → Value} {M' : ι → List HP} {F' : ι → List Fact} (k : Nat) (is : List Nat) (ok : okM k is = true)
    (h : Ctr P f args (pikM M k is) F ι val M' F') : Ctr P f args M F ι val M' F' := fun w hw => h w (hw.toM k is ok)
section
variable {P : Program} {r : Option Nat} {N : Nat} {ops : Array Oper} {rest : List Oper} {Q : Exit → Act → World → Prop} {E : Env} {ds : List Deferred} {M : List HP} {F : List Fact}
theorem RL.pick (k : Nat) (is : List Nat) (ok : okM k is = true) (h : RL P r N ops rest Q E ds (pikM M k is) F) : RL P r N ops rest Q E ds M F := RL.weak (fun _ hw => hw.toM k is ok) h
theorem TR.pick {c : Code} (k : Nat) (is : List Nat) (ok : okM k is = true) (h : TR P r N c Q E ds (pikM M k is) F) : TR P r N c Q E ds M F := TR.weak (fun _ hw => hw.toM k is ok) h
theorem RL.to (k : Nat) (is : List Nat) (kf : Nat) (fs : List Nat) (ok : okM k is = true) (h : RL P r N ops rest Q E ds (pikM M k is) (pikF F kf fs)) : RL P r N ops rest Q E ds M F := RL.weak (fun _ hw => hw.to k is kf fs ok) h
theorem TR.to {c : Code} (k : Nat) (is : List Nat) (kf : Nat) (fs : List Nat) (ok : okM k is = true) (h : TR P r N c Q E ds (pikM M k is) (pikF F kf fs)) : TR P r N c Q E ds M F := TR.weak (fun _ hw => hw.to k is kf fs ok) h
end
/-! ### Many parts as one -/
/-- all the parts of a list, as one part -/
def Al (L : List HP) : HP where
  p w K := Own w L K
  loc := Own.loc
  lt := Own.lt
theorem St.alOpen {w : World} {L M : List HP} {F : List Fact} (h : St w (Al L :: M) F) : St w (L ++ M) F := by
  obtain ⟨K, ⟨K1, K2, e, h1, h2⟩, hn, hf⟩ := h
  exact ⟨K, Own.append.2 ⟨K1, K2, e, h1, h2⟩, hn, hf⟩
theorem St.alClose {w : World} {L M : List HP} {F : List Fact} (h : St w (L ++ M) F) : St w (Al L :: M) F := by
  obtain ⟨K, ho, hn, hf⟩ := h
  obtain ⟨K1, K2, e, h1, h2⟩ := Own.append.1 ho
  exact ⟨K, ⟨K1, K2, e, h1, h2⟩, hn, hf⟩
theorem St.alSnoc {w : World} {L M : List HP} {r : HP} {F : List Fact} (h : St w (r :: Al L :: M) F) : St w (Al (L ++ [r]) :: M) F := by
  refine St.alClose ?_
  have h1 := St.alOpen (h.perm (.swap _ _ _))
  rw [List.append_assoc]
  exact h1
theorem St.alNil {w : World} {M : List HP} {F : List Fact} (h : St w M F) : St w (Al [] :: M) F := St.alClose h
theorem St.alCut {w : World} {L M : List HP} {F : List Fact} (i : Nat) (hi : i < L.length) (h : St w (Al L :: M) F) : St w (L[i] :: Al (L.take i) :: Al (L.drop (i + 1)) :: M) F := by
  have h1 := St.alOpen h
  have e : L ++ M = L.take i ++ (L[i] :: (L.drop (i + 1) ++ M)) := by
    have e2 : L = L.take i ++ (L[i] :: L.drop (i + 1)) := by rw [← List.drop_eq_getElem_cons hi, List.take_append_drop]
    exact (congrArg (· ++ M) e2).trans (by simp only [List.append_assoc, List.cons_append])
  rw [e] at h1
  have h2 : St w (L[i] :: (L.take i ++ (L.drop (i + 1) ++ M))) F := h1.perm List.perm_middle
  have h3 : St w (L.drop (i + 1) ++ (L[i] :: (L.take i ++ M))) F := h2.perm ((List.Perm.cons _ (perm_mid _ _ _)).trans List.perm_middle.symm)
  have h4 := St.alClose h3
  have h5 : St w (L.take i ++ (L[i] :: Al (L.drop (i + 1)) :: M)) F := h4.perm (by
    refine (List.Perm.swap _ _ _).trans ?_
    refine (List.Perm.cons _ (List.perm_middle.symm)).trans ?_
    exact List.perm_middle.symm)
  exact (St.alClose h5).perm (.swap _ _ _)
theorem St.alJoin {w : World} {L1 L2 M : List HP} {r : HP} {F : List Fact} (h : St w (r :: Al L1 :: Al L2 :: M) F) : St w (Al (L1 ++ r :: L2) :: M) F := by
  refine St.alClose ?_
  have h1 : St w (L1 ++ (r :: Al L2 :: M)) F := St.alOpen (h.perm (.swap _ _ _))
  have h2 : St w (Al L2 :: (L1 ++ (r :: M))) F := h1.perm ((List.Perm.append_left _ (.swap _ _ _)).trans List.perm_middle)
  have h3 : St w (L2 ++ (L1 ++ (r :: M))) F := St.alOpen h2
  rw [List.append_assoc]
  have h4 : St w (L1 ++ (L2 ++ (r :: M))) F := h3.perm (perm_mid _ _ _)
  exact h4.perm (List.Perm.append_left L1 List.perm_middle)
end Go.GL

namespace Go.Proofs.Ytkdeopioelocnaa
open Go.GL
set_option linter.unusedVariables false
theorem qa_tl22 : tySlice Try.prog 22 3 = true := by kernel_rfl
theorem qa_ts3 : tyScalar Try.prog 3 = true := by kernel_rfl
theorem qa_tz3 : tySize Try.prog 3 1 = true := by kernel_rfl
theorem mixed : Try.prog.follows .mixedOrders = true := by kernel_rfl

def IntsOk (xs : List Int) : Prop := xs.length ≤ 9223372036854775807 ∧ ∀ x, x ∈ xs → -9223372036854775808 ≤ x ∧ x ≤ 9223372036854775807

theorem around_spec {n m : Int} {M : List HP} {F : List Fact} (hm : 0 < m) (h0 : -9223372036854775808 ≤ n) (h1 : n ≤ 9223372036854775807) : Ctr Try.prog 34 [I n, I m] M F {r : Int // 0 ≤ r ∧ r < m} (fun r => I r.1) (fun _ => M) (fun _ => F) := by
  refine Ctr.body Try.func34 rfl rfl ?_
  refine TR.seq ?_
  refine TR.region ?_
  refine RL.assign rfl rfl rfl ?_
  refine RL.nil ?_
  refine NX.seq ?_
  refine TR.seq ?_
  refine TR.seq ?_
  refine TR.region ?_
  refine RL.move rfl rfl rfl ?_
  refine RL.bin rfl rfl rfl BinV.lss rfl ?_
  refine RL.nil ?_
  refine NX.seq ?_
  refine TR.cond rfl (fun h1 => ?_) (fun h1 => ?_)
  · skip
    have hn := of_decide_eq_true h1
    refine TR.region ?_
    refine RL.move rfl rfl rfl ?_
    refine RL.bin rfl rfl rfl (BinV.add _ rfl (by omega) (by omega)) rfl ?_
    refine RL.neg rfl rfl (by omega) (by omega) rfl ?_
    refine RL.assign rfl rfl rfl ?_
    refine RL.nil ?_
    refine NX.seq ?_
    refine TR.seq ?_
    refine TR.region ?_
    refine RL.move rfl rfl rfl ?_
    refine RL.move rfl rfl rfl ?_
    refine RL.bin rfl rfl rfl (BinV.rem (by omega)) rfl ?_
    refine RL.assign rfl rfl rfl ?_
    refine RL.nil ?_
    refine NX.seq ?_
    refine TR.ret ?_
    refine NX.ret1 ⟨_, ?_, ?_⟩ rfl rfl rfl (fun w hw => hw)
    · exact Int.tmod_nonneg _ (by omega)
    · exact Int.tmod_lt_of_pos _ (by omega)
  · skip
    have hn := of_decide_eq_false h1
    refine TR.skip ?_
    refine NX.seq ?_
    refine TR.seq ?_
    refine TR.region ?_
    refine RL.move rfl rfl rfl ?_
    refine RL.move rfl rfl rfl ?_
    refine RL.bin rfl rfl rfl (BinV.rem (by omega)) rfl ?_
    refine RL.assign rfl rfl rfl ?_
    refine RL.nil ?_
    refine NX.seq ?_
    refine TR.ret ?_
    refine NX.ret1 ⟨_, ?_, ?_⟩ rfl rfl rfl (fun w hw => hw)
    · exact Int.tmod_nonneg _ (by omega)
    · exact Int.tmod_lt_of_pos _ (by omega)

theorem pick_spec {xs : List Int} {oa : Option Addr} {ca : Nat} {i m : Int} {M : List HP} {F : List Fact} (ha : ArrF oa (ints xs) ∈ F) (hxs : IntsOk xs) (hm : 0 < m) : Ctr Try.prog 24 [.slice oa xs.length ca, I i, I m] M F {r : Int // 0 ≤ r ∧ r < m} (fun r => I r.1) (fun _ => M) (fun _ => F) := by
  refine Ctr.body Try.func24 rfl rfl ?_
  refine TR.seq ?_
  refine TR.region ?_
  refine RL.assign rfl rfl rfl ?_
  refine RL.nil ?_
  refine NX.seq ?_
  refine TR.seq ?_
  refine TR.seq ?_
  refine TR.region ?_
  refine RL.move rfl rfl rfl ?_
  refine RL.bin rfl rfl rfl BinV.lss rfl ?_
  refine RL.move rfl rfl rfl ?_
  refine RL.part (fun h1 => ?_) (fun h1 => ?_)
  · skip
    refine RL.skip rfl rfl rfl ?_
    refine RL.skip rfl rfl rfl ?_
    refine RL.skip rfl rfl rfl ?_
    refine RL.skip rfl rfl rfl ?_
    refine RL.pickT rfl rfl rfl rfl ?_
    refine RL.nil ?_
    refine NX.seq ?_
    refine TR.condT rfl ?_
    refine TR.seq ?_
    refine TR.region ?_
    refine RL.assign rfl rfl rfl ?_
    refine RL.nil ?_
    refine NX.seq ?_
    refine TR.ret ?_
    refine NX.retThen ?_
    exact NX.ret1 ⟨0, by omega, hm⟩ rfl rfl rfl (fun w hw => hw)
  · skip
    have hp1 := of_decide_eq_false h1
    refine RL.move rfl rfl rfl ?_
    refine RL.move rfl rfl rfl ?_
    refine RL.lenSlice rfl qa_tl22 rfl rfl ?_
    refine RL.bin rfl rfl rfl BinV.geq rfl ?_
    refine RL.pickF rfl rfl rfl rfl ?_
    refine RL.nil ?_
    refine NX.seq ?_
    refine TR.cond rfl (fun h2 => ?_) (fun h2 => ?_)
    · skip
      refine TR.seq ?_
      refine TR.region ?_
      refine RL.assign rfl rfl rfl ?_
      refine RL.nil ?_
      refine NX.seq ?_
      refine TR.ret ?_
      refine NX.retThen ?_
      exact NX.ret1 ⟨0, by omega, hm⟩ rfl rfl rfl (fun w hw => hw)
    · skip
      have hi0 := of_decide_eq_false h2
      have hi1 : i.toNat < xs.length := by omega
      have hr := hxs.2 _ (List.getElem_mem hi1)
      refine TR.openP (open_arr ha (ints_ne (by omega))) (fun x hx => ?_)
      refine TR.skip ?_
      refine NX.seq ?_
      refine TR.seq ?_
      refine TR.region ?_
      refine RL.move rfl rfl rfl ?_
      refine RL.move rfl rfl rfl ?_
      refine RL.indexAddr rfl qa_tl22 qa_tz3 (congrArg (fun a => some (Value.slice a _ _)) hx) rfl (by omega) (by omega) rfl ?_
      refine RL.loadF rfl rfl (fun w K hF => run_loadCell1 (j := i.toNat * 1) (v := I xs[i.toNat]) (hF _ (.head _)) qa_ts3 (by simp [hi1])) rfl ?_
      refine RL.move rfl rfl rfl ?_
      refine RL.call rfl rfl Try.call34 rfl (around_spec hm hr.1 hr.2) (fun v => ?_)
      refine RL.assign rfl rfl rfl ?_
      refine RL.nil ?_
      refine NX.seq ?_
      refine TR.ret ?_
      exact NX.ret1 v rfl rfl rfl (fun w hw => hw.facts (fun φ h => .tail _ h))

end Go.Proofs.Ytkdeopioelocnaa

namespace Go.Proofs.Ytkdeopioelocnaa
open Go.GL
set_option linter.unusedVariables false
theorem qb_bs26_1_0 (x00 : Int) (x01 : Int) (x02 : List UInt8) : BuildSV Try.prog 26 78 1 [(0, .agg #[.int .i64 x00, .int .i64 x01, S x02])] [.int .i64 x00, .int .i64 x01, S x02] := fun w => by kernel_rfl
theorem qb_bv78_0_1_2 (x0 : Int) (x1 : Int) (x2 : List UInt8) : BuildV Try.prog 78 [(0, .int .i64 x0), (1, .int .i64 x1), (2, S x2)] (.agg #[.int .i64 x0, .int .i64 x1, S x2]) := fun w => by kernel_rfl
theorem qb_ni9 : noInt Try.prog 9 = true := by kernel_rfl
theorem qb_ta78 : tyAgg Try.prog 78 3 = true := by kernel_rfl
theorem qb_te5 : tyElem Try.prog 5 1 1 = true := by kernel_rfl
theorem qb_tf127_0 : fieldOff Try.prog 127 0 0 = true := by kernel_rfl
theorem qb_tf127_1 : fieldOff Try.prog 127 1 1 = true := by kernel_rfl
theorem qb_tf78_0 : fieldOff Try.prog 78 0 0 = true := by kernel_rfl
theorem qb_tf78_1 : fieldOff Try.prog 78 1 1 = true := by kernel_rfl
theorem qb_tf78_2 : fieldOff Try.prog 78 2 2 = true := by kernel_rfl
theorem qb_tl125 : tySlice Try.prog 125 5 = true := by kernel_rfl
theorem qb_tl26 : tySlice Try.prog 26 78 = true := by kernel_rfl
theorem qb_tp124 : tyPtr Try.prog 124 127 = true := by kernel_rfl
theorem qb_tp138 : tyPtr Try.prog 138 5 = true := by kernel_rfl
theorem qb_ts124 : tyScalar Try.prog 124 = true := by kernel_rfl
theorem qb_ts125 : tyScalar Try.prog 125 = true := by kernel_rfl
theorem qb_ts3 : tyScalar Try.prog 3 = true := by kernel_rfl
theorem qb_ts9 : tyScalar Try.prog 9 = true := by kernel_rfl
theorem qb_tstr9 : tyStr Try.prog 9 = true := by kernel_rfl
theorem qb_tu147 : tyUns Try.prog 147 = true := by kernel_rfl
theorem qb_tz127 : tySize Try.prog 127 2 = true := by kernel_rfl
theorem qb_tz78 : tySize Try.prog 78 3 = true := by kernel_rfl
theorem ext68 (v : Value) (w : World) : (callFunc 105 #[v]).run Try.prog w = .ok (.value v) w := by kernel_rfl
theorem lies80 : liesAt Try.prog Try.prog.depth 127 (([Value.pointer none, .slice none 0 0] : List Value).length / Try.prog.cellsOf 127) 0 127 1 = true := by kernel_rfl
theorem cells5 : Nat.beq (Try.prog.cellsOf 5) 1 = true := by kernel_rfl

theorem copyCheck0_spec {b : Nat} {oa : Option Addr} {n c : Nat} {M : List HP} {F : List Fact} : Ctr Try.prog 96 [.pointer (some ⟨b, 0, none⟩)] (Box b 127 [.pointer (none), .slice oa n c] :: M) F Unit (fun _ => .tuple #[]) (fun _ => Box b 127 [.pointer (some ⟨b, 0, none⟩), .slice oa n c] :: M) (fun _ => F) := by
  refine Ctr.body Try.func96 rfl rfl ?_
  refine TR.seq ?_
  refine TR.region ?_
  refine RL.move rfl rfl rfl ?_
  refine RL.nilCheck rfl rfl rfl ?_
  refine RL.fieldAddr rfl qb_tf127_0 rfl rfl ?_
  refine RL.load1 0 rfl qb_ts124 rfl rfl rfl rfl ?_
  refine RL.bin rfl rfl rfl (BinV.eqlPtrNil qb_tp124) rfl ?_
  refine RL.nil ?_
  refine NX.seq ?_
  refine TR.condT rfl ?_
  refine TR.region ?_
  refine RL.move rfl rfl rfl ?_
  refine RL.move rfl rfl rfl ?_
  refine RL.toUnsafe 0 rfl qb_tp124 qb_tz127 rfl qb_tu147 rfl rfl rfl rfl ?_
  refine RL.callX rfl rfl (ext68 _) rfl ?_
  refine RL.fromUnsafe 0 rfl qb_tu147 qb_tz127 qb_tp124 rfl rfl lies80 rfl ?_
  refine RL.nilCheck rfl rfl rfl ?_
  refine RL.fieldAddr rfl qb_tf127_0 rfl rfl ?_
  refine RL.store1 0 rfl qb_ts124 rfl rfl rfl rfl rfl ?_
  refine RL.nil ?_
  exact NX.end0 () rfl rfl (fun w hw => hw)

theorem copyCheck1_spec {b : Nat} {oa : Option Addr} {n c : Nat} {M : List HP} {F : List Fact} : Ctr Try.prog 96 [.pointer (some ⟨b, 0, none⟩)] (Box b 127 [.pointer (some ⟨b, 0, none⟩), .slice oa n c] :: M) F Unit (fun _ => .tuple #[]) (fun _ => Box b 127 [.pointer (some ⟨b, 0, none⟩), .slice oa n c] :: M) (fun _ => F) := by
  refine Ctr.body Try.func96 rfl rfl ?_
  refine TR.seq ?_
  refine TR.region ?_
  refine RL.move rfl rfl rfl ?_
  refine RL.nilCheck rfl rfl rfl ?_
  refine RL.fieldAddr rfl qb_tf127_0 rfl rfl ?_
  refine RL.load1 0 rfl qb_ts124 rfl rfl rfl rfl ?_
  refine RL.bin rfl rfl rfl (BinV.eqlPtrNil qb_tp124) rfl ?_
  refine RL.nil ?_
  refine NX.seq ?_
  refine TR.condF rfl ?_
  refine TR.seq ?_
  refine TR.region ?_
  refine RL.move rfl rfl rfl ?_
  refine RL.nilCheck rfl rfl rfl ?_
  refine RL.fieldAddr rfl qb_tf127_0 rfl rfl ?_
  refine RL.load1 0 rfl qb_ts124 rfl rfl rfl rfl ?_
  refine RL.move rfl rfl rfl ?_
  refine RL.bin rfl rfl rfl (BinV.neqPtrSame qb_tp124 qb_tz127) rfl ?_
  refine RL.nil ?_
  refine NX.seq ?_
  refine TR.condF rfl ?_
  refine TR.skip ?_
  exact NX.end0 () rfl rfl (fun w hw => hw)

theorem copyCheck_spec {b : Nat} {oa : Option Addr} {n c : Nat} {M : List HP} {F : List Fact} (i : Bool) : Ctr Try.prog 96 [.pointer (some ⟨b, 0, none⟩)] (Box b 127 [.pointer (if i then some ⟨b, 0, none⟩ else none), .slice oa n c] :: M) F Unit (fun _ => .tuple #[]) (fun _ => Box b 127 [.pointer (some ⟨b, 0, none⟩), .slice oa n c] :: M) (fun _ => F) := by
  cases i
  · exact copyCheck0_spec
  · exact copyCheck1_spec

theorem writeString_spec {b : Nat} {l x : List UInt8} {M : List HP} {F : List Fact} (hl : l.length + x.length ≤ 140737488355328) : Ctr Try.prog 85 [.pointer (some ⟨b, 0, none⟩), S x] (Bld 127 5 b l :: M) F Unit (fun _ => .tuple #[I x.length, .nilIface]) (fun _ => Bld 127 5 b (l ++ x) :: M) (fun _ => F) := by
  refine Ctr.body Try.func85 rfl rfl ?_
  refine TR.seq ?_
  refine TR.region ?_
  refine RL.open (fun w hw => St.exOpen hw) (fun i => ?_)
  refine RL.assign rfl rfl rfl ?_
  refine RL.assign rfl rfl rfl ?_
  refine RL.nil ?_
  refine NX.seq ?_
  refine TR.seq ?_
  refine TR.region ?_
  refine RL.move rfl rfl rfl ?_
  refine RL.call rfl rfl Try.call96 rfl (copyCheck_spec i.1) (fun _ => ?_)
  refine RL.nil ?_
  refine NX.seq ?_
  refine TR.seq ?_
  refine TR.region ?_
  refine RL.move rfl rfl rfl ?_
  refine RL.move rfl rfl rfl ?_
  refine RL.nilCheck rfl rfl rfl ?_
  refine RL.fieldAddr rfl qb_tf127_1 rfl rfl ?_
  refine RL.load1 0 rfl qb_ts125 rfl rfl rfl rfl ?_
  refine RL.move rfl rfl rfl ?_
  refine RL.ofGV rfl rfl (GV.append (j := 1) qb_tl125 qb_ni9 qb_te5 rfl rfl rfl (src_str x) (by omega) (by omega)) (fun z => ?_)
  refine RL.nilCheck rfl rfl rfl ?_
  refine RL.fieldAddr rfl qb_tf127_1 rfl rfl ?_
  refine RL.store1 0 rfl qb_ts125 rfl rfl rfl rfl rfl ?_
  refine RL.nil ?_
  refine NX.seq ?_
  refine TR.seq ?_
  refine TR.region ?_
  refine RL.move rfl rfl rfl ?_
  refine RL.lenStr rfl qb_tstr9 rfl rfl ?_
  refine RL.assign rfl rfl rfl ?_
  refine RL.assign rfl rfl rfl ?_
  refine RL.nil ?_
  refine NX.seq ?_
  refine TR.ret ?_
  exact NX.ret2 () rfl rfl rfl rfl (fun w hw => St.exClose (true, z.1, z.2) (by rw [bytesV_append, List.length_append]; exact hw))

set_option maxRecDepth 100000 in
theorem bString_spec {b : Nat} {l : List UInt8} {M : List HP} {F : List Fact} (hl : l.length ≤ 140737488355328) : Ctr Try.prog 86 [.pointer (some ⟨b, 0, none⟩)] (Bld 127 5 b l :: M) F Unit (fun _ => S l) (fun _ => M) (fun _ => F) := by
  refine Ctr.body Try.func86 rfl rfl ?_
  refine TR.seq ?_
  refine TR.region ?_
  refine RL.open (fun w hw => St.exOpen hw) (fun i => ?_)
  refine RL.assign rfl rfl rfl ?_
  refine RL.nil ?_
  refine NX.seq ?_
  refine TR.seq ?_
  refine TR.sub (E' := [(0, _), (2, _)]) ⟨rfl, rfl, trivial⟩ ?_
  refine TR.draw mixed ?_
  apply AR.more [(0, _), (1, _), (2, _), (3, _), (5, _), (6, _), (7, _), (8, _), (9, _)]
  refine AR.eff [0, 1, 2, 3, 5, 6, 7, 8, 9] 4 [0, 1, 2, 3, 4, 5, 6, 7, 8, 9, 10, 11] ⟨QOne.yes rfl rfl rfl (PV.move rfl), QOne.yes rfl rfl rfl (PV.nilCheck rfl), QOne.yes rfl rfl rfl (PV.fieldAddr qb_tf127_1 rfl), QOne.yes rfl rfl rfl (PV.load1 0 qb_ts125 rfl rfl rfl), QOne.yes rfl rfl rfl (PV.move rfl), QOne.yes rfl rfl rfl (PV.nilCheck rfl), QOne.yes rfl rfl rfl (PV.fieldAddr qb_tf127_1 rfl), QOne.yes rfl rfl rfl (PV.load1 0 qb_ts125 rfl rfl rfl), QOne.yes rfl rfl rfl (PV.lenSlice qb_tl125 rfl), trivial⟩ rfl rfl rfl rfl rfl rfl rfl (EV.ofGV (GV.sliceData (j := 1) qb_tp138 rfl rfl)) (fun q => ?_)
  refine AR.done [3, 2, 1, 0] rfl ?_
  refine AR.eff [5, 6, 7, 8, 9] 10 [0, 1, 2, 3, 4, 5, 6, 7, 8, 9, 10, 11] ⟨QOne.yes rfl rfl rfl (PV.move rfl), QOne.yes rfl rfl rfl (PV.nilCheck rfl), QOne.yes rfl rfl rfl (PV.fieldAddr qb_tf127_1 rfl), QOne.yes rfl rfl rfl (PV.load1 0 qb_ts125 rfl rfl rfl), QOne.yes rfl rfl rfl (PV.lenSlice qb_tl125 rfl), trivial⟩ rfl rfl rfl rfl rfl rfl rfl (EV.ofGV (GV.unsafeString (j := 1) qb_tp138 cells5 rfl rfl q.2 (by omega) rfl)) (fun _ => ?_)
  refine AR.done [9, 8, 7, 6, 5] rfl ?_
  apply AR.more [(11, _)]
  refine AR.last [11] [0, 1, 2, 3, 4, 5, 6, 7, 8, 9, 10, 11] ⟨QOne.yes rfl rfl rfl (PV.assign rfl), trivial⟩ rfl rfl rfl ?_
  refine NX.sub (E' := [(2, _)]) ⟨rfl, trivial⟩ ?_
  refine NX.seq ?_
  refine TR.ret ?_
  exact NX.ret1 () rfl rfl rfl (fun w hw => (hw.drop 0 rfl).drop 0 rfl)

theorem sound_spec {es : List Ed} {oa : Option Addr} {ca : Nat} {size : Int} {M : List HP} {F : List Fact} (ha : ArrF oa (edC es) ∈ F) (hl : es.length ≤ 4611686018427387904) : Ctr Try.prog 81 [.slice oa es.length ca, I size] M F Unit (fun _ => I (soundE size es)) (fun _ => M) (fun _ => F) := by
  refine Ctr.body Try.func81 rfl rfl ?_
  refine TR.seq ?_
  refine TR.region ?_
  refine RL.assign rfl rfl rfl ?_
  refine RL.nil ?_
  refine NX.seq ?_
  refine TR.seq ?_
  refine TR.seq ?_
  refine TR.region ?_
  refine RL.move rfl rfl rfl ?_
  refine RL.lenSlice rfl qb_tl26 rfl rfl ?_
  refine RL.bin rfl rfl rfl BinV.gtr rfl ?_
  refine RL.nil ?_
  refine NX.seq ?_
  refine TR.cond rfl (fun h1 => ?_) (fun h1 => ?_)
  · skip
    have hbig : 64 < es.length := by have := of_decide_eq_true h1; omega
    refine TR.seq ?_
    refine TR.region ?_
    refine RL.assign rfl rfl rfl ?_
    refine RL.nil ?_
    refine NX.seq ?_
    refine TR.ret ?_
    refine NX.retThen ?_
    exact NX.ret1 () rfl rfl (by unfold soundE; rw [if_pos hbig]) (fun w hw => hw)
  · skip
    have hsm : ¬ 64 < es.length := by have := of_decide_eq_false h1; omega
    refine TR.skip ?_
    refine NX.seq ?_
    refine TR.seq ?_
    refine TR.region ?_
    refine RL.assign rfl rfl rfl ?_
    refine RL.nil ?_
    refine NX.seq ?_
    refine TR.seq ?_
    refine TR.seq ?_
    refine TR.region ?_
    refine RL.move rfl rfl rfl ?_
    refine RL.lenSlice rfl qb_tl26 rfl rfl ?_
    refine RL.move rfl rfl rfl ?_
    refine RL.nil ?_
    refine NX.seq ?_
    refine TR.block ?_
    refine TR.loopP (ι := Nat × Int) (fun x => x.1 ≤ es.length ∧ sound1 size x.2 (es.drop x.1) = sound1 size 0 es) (fun x => [(0, .slice oa es.length ca), (1, I size), (5, I x.2), (11, .slice oa es.length ca), (12, I es.length), (13, I x.1)]) (fun _ => M) (fun _ => F) (fun x => es.length - x.1) (0, 0) ⟨Nat.zero_le _, rfl⟩ ⟨rfl, rfl, rfl, rfl, rfl, rfl, trivial⟩ (fun w hw => hw) (fun x hx => ?_)
    refine TR.seq ?_
    refine TR.region ?_
    refine RL.bin rfl rfl rfl BinV.lss rfl ?_
    refine RL.nil ?_
    refine NX.seq ?_
    refine TR.seq ?_
    refine TR.cond rfl (fun h2 => ?_) (fun h2 => ?_)
    · skip
      have hk1 : x.1 < es.length := by have := of_decide_eq_true h2; omega
      have hdk := List.drop_eq_getElem_cons hk1
      refine TR.openP (open_arr (oa := oa) (xs := edC es) ha (fun e => by have h8 := edC_length es; rw [e] at h8; simp at h8; omega)) (fun pq hpa => ?_)
      refine TR.skip ?_
      refine NX.seq ?_
      refine TR.seq ?_
      refine TR.block ?_
      refine TR.seq ?_
      refine TR.region ?_
      refine RL.indexAddr rfl qb_tl26 qb_tz78 (congrArg (fun a => some (Value.slice a _ _)) hpa) rfl (by omega) (by omega) rfl ?_
      refine RL.loadF rfl rfl (fun w K hF => run_ed (hF _ (.head _)) qb_ta78 hk1) rfl ?_
      refine RL.allocA rfl (Try.zeroValue78) rfl (fun b3 => ?_)
      refine RL.storeA 0 rfl rfl rfl rfl qb_tz78 rfl rfl ?_
      refine RL.nil ?_
      refine NX.seq ?_
      refine TR.seq ?_
      refine TR.block ?_
      refine TR.seq ?_
      refine TR.region ?_
      refine RL.fieldAddr rfl qb_tf78_0 rfl rfl ?_
      refine RL.load1 0 rfl qb_ts3 rfl rfl rfl rfl ?_
      refine RL.bin rfl rfl rfl BinV.lss rfl ?_
      refine RL.move rfl rfl rfl ?_
      refine RL.part (fun h4 => ?_) (fun h4 => ?_)
      · skip
        have hA := of_decide_eq_true h4
        have hbad : es[x.1].f < 0 ∨ es[x.1].t < es[x.1].f ∨ size < es[x.1].t := .inl hA
        refine RL.skip rfl rfl rfl ?_
        refine RL.skip rfl rfl rfl ?_
        refine RL.skip rfl rfl rfl ?_
        refine RL.skip rfl rfl rfl ?_
        refine RL.skip rfl rfl rfl ?_
        refine RL.pickT rfl rfl rfl rfl ?_
        refine RL.move rfl rfl rfl ?_
        refine RL.skip rfl rfl rfl ?_
        refine RL.skip rfl rfl rfl ?_
        refine RL.skip rfl rfl rfl ?_
        refine RL.skip rfl rfl rfl ?_
        refine RL.pickT rfl rfl rfl rfl ?_
        refine RL.assign rfl rfl rfl ?_
        refine RL.nil ?_
        refine NX.seq ?_
        refine TR.condT rfl ?_
        refine TR.seq ?_
        refine TR.region ?_
        refine RL.assign rfl rfl rfl ?_
        refine RL.nil ?_
        refine NX.seq ?_
        refine TR.ret ?_
        refine NX.retBlock ?_
        refine NX.retThen ?_
        refine NX.retBlock ?_
        refine NX.retThen ?_
        refine NX.retThen ?_
        refine NX.retBlock ?_
        refine NX.retThen ?_
        have h9 := hx.2
        rw [hdk, sound1_bad hbad] at h9
        exact NX.ret1 () rfl rfl (by unfold soundE; rw [if_neg hsm, ← h9]) (fun w hw => hw.tail.facts (fun φ h => .tail _ (h)))
      · skip
        have hA := of_decide_eq_false h4
        refine RL.fieldAddr rfl qb_tf78_1 rfl rfl ?_
        refine RL.load1 0 rfl qb_ts3 rfl rfl rfl rfl ?_
        refine RL.fieldAddr rfl qb_tf78_0 rfl rfl ?_
        refine RL.load1 0 rfl qb_ts3 rfl rfl rfl rfl ?_
        refine RL.bin rfl rfl rfl BinV.lss rfl ?_
        refine RL.pickF rfl rfl rfl rfl ?_
        refine RL.move rfl rfl rfl ?_
        refine RL.part (fun h5 => ?_) (fun h5 => ?_)
        · skip
          have hB := of_decide_eq_true h5
          have hbad : es[x.1].f < 0 ∨ es[x.1].t < es[x.1].f ∨ size < es[x.1].t := .inr (.inl hB)
          refine RL.skip rfl rfl rfl ?_
          refine RL.skip rfl rfl rfl ?_
          refine RL.skip rfl rfl rfl ?_
          refine RL.skip rfl rfl rfl ?_
          refine RL.pickT rfl rfl rfl rfl ?_
          refine RL.assign rfl rfl rfl ?_
          refine RL.nil ?_
          refine NX.seq ?_
          refine TR.condT rfl ?_
          refine TR.seq ?_
          refine TR.region ?_
          refine RL.assign rfl rfl rfl ?_
          refine RL.nil ?_
          refine NX.seq ?_
          refine TR.ret ?_
          refine NX.retBlock ?_
          refine NX.retThen ?_
          refine NX.retBlock ?_
          refine NX.retThen ?_
          refine NX.retThen ?_
          refine NX.retBlock ?_
          refine NX.retThen ?_
          have h9 := hx.2
          rw [hdk, sound1_bad hbad] at h9
          exact NX.ret1 () rfl rfl (by unfold soundE; rw [if_neg hsm, ← h9]) (fun w hw => hw.tail.facts (fun φ h => .tail _ (h)))
        · skip
          have hB := of_decide_eq_false h5
          refine RL.fieldAddr rfl qb_tf78_1 rfl rfl ?_
          refine RL.load1 0 rfl qb_ts3 rfl rfl rfl rfl ?_
          refine RL.move rfl rfl rfl ?_
          refine RL.bin rfl rfl rfl BinV.gtr rfl ?_
          refine RL.pickF rfl rfl rfl rfl ?_
          refine RL.assign rfl rfl rfl ?_
          refine RL.nil ?_
          refine NX.seq ?_
          refine TR.cond rfl (fun h6 => ?_) (fun h6 => ?_)
          · skip
            have hC := of_decide_eq_true h6
            have hbad : es[x.1].f < 0 ∨ es[x.1].t < es[x.1].f ∨ size < es[x.1].t := .inr (.inr hC)
            refine TR.seq ?_
            refine TR.region ?_
            refine RL.assign rfl rfl rfl ?_
            refine RL.nil ?_
            refine NX.seq ?_
            refine TR.ret ?_
            refine NX.retBlock ?_
            refine NX.retThen ?_
            refine NX.retBlock ?_
            refine NX.retThen ?_
            refine NX.retThen ?_
            refine NX.retBlock ?_
            refine NX.retThen ?_
            have h9 := hx.2
            rw [hdk, sound1_bad hbad] at h9
            exact NX.ret1 () rfl rfl (by unfold soundE; rw [if_neg hsm, ← h9]) (fun w hw => hw.tail.facts (fun φ h => .tail _ (h)))
          · skip
            have hC := of_decide_eq_false h6
            have hok : ¬ (es[x.1].f < 0 ∨ es[x.1].t < es[x.1].f ∨ size < es[x.1].t) := by rintro (h | h | h) <;> contradiction
            refine TR.seq ?_
            refine TR.region ?_
            refine RL.fieldAddr rfl qb_tf78_0 rfl rfl ?_
            refine RL.load1 0 rfl qb_ts3 rfl rfl rfl rfl ?_
            refine RL.move rfl rfl rfl ?_
            refine RL.bin rfl rfl rfl BinV.lss rfl ?_
            refine RL.assign rfl rfl rfl ?_
            refine RL.nil ?_
            refine NX.seq ?_
            refine TR.cond rfl (fun h7 => ?_) (fun h7 => ?_)
            · skip
              have hlow : es[x.1].f < x.2 := of_decide_eq_true h7
              refine TR.seq ?_
              refine TR.region ?_
              refine RL.assign rfl rfl rfl ?_
              refine RL.nil ?_
              refine NX.seq ?_
              refine TR.ret ?_
              refine NX.retBlock ?_
              refine NX.retThen ?_
              refine NX.retBlock ?_
              refine NX.retThen ?_
              refine NX.retThen ?_
              refine NX.retBlock ?_
              refine NX.retThen ?_
              have h9 := hx.2
              rw [hdk, sound1_low hok hlow] at h9
              exact NX.ret1 () rfl rfl (by unfold soundE; rw [if_neg hsm, ← h9]) (fun w hw => hw.tail.facts (fun φ h => .tail _ (h)))
            · skip
              have hge : ¬ es[x.1].f < x.2 := of_decide_eq_false h7
              refine TR.skip ?_
              refine NX.off ?_
              refine NX.seq ?_
              refine TR.region ?_
              refine RL.fieldAddr rfl qb_tf78_1 rfl rfl ?_
              refine RL.load1 0 rfl qb_ts3 rfl rfl rfl rfl ?_
              refine RL.assign rfl rfl rfl ?_
              refine RL.nil ?_
              refine NX.off ?_
              refine NX.seq ?_
              refine TR.region ?_
              refine RL.bin rfl rfl rfl (BinV.add _ rfl (by omega) (by omega)) rfl ?_
              refine RL.move rfl rfl rfl ?_
              refine RL.nil ?_
              have h9 := hx.2
              rw [hdk, sound1_on hok hge] at h9
              refine NX.roundP (x.1 + 1, es[x.1].t) ⟨hk1, h9⟩ (by show _ - (x.1 + 1) < _ - x.1; omega) ⟨rfl, rfl, rfl, rfl, rfl, rfl, trivial⟩ (fun w hw => hw.tail.facts (fun φ h => .tail _ (h)))
    · skip
      have hk2 : x.1 = es.length := by have := of_decide_eq_false h2; have := hx.1; omega
      refine TR.exit ?_
      refine NX.exitThen ?_
      refine NX.exitThen ?_
      refine NX.exitHere ?_
      refine NX.seq ?_
      refine TR.seq ?_
      refine TR.region ?_
      refine RL.assign rfl rfl rfl ?_
      refine RL.nil ?_
      refine NX.seq ?_
      refine TR.ret ?_
      have h9 := hx.2
      rw [hk2, List.drop_length, sound1] at h9
      exact NX.ret1 () rfl rfl (by unfold soundE; rw [if_neg hsm, ← h9]) (fun w hw => hw)

theorem valid_spec {s : List UInt8} {es : List Ed} {oa : Option Addr} {ca : Nat} {M : List HP} {F : List Fact} (ha : ArrF oa (edC es) ∈ F) (hl : es.length ≤ 4611686018427387904) : Ctr Try.prog 56 [S s, .slice oa es.length ca] M F Unit (fun _ => I (soundE s.length es)) (fun _ => M) (fun _ => F) := by
  refine Ctr.body Try.func56 rfl rfl ?_
  refine TR.seq ?_
  refine TR.region ?_
  refine RL.assign rfl rfl rfl ?_
  refine RL.nil ?_
  refine NX.seq ?_
  refine TR.seq ?_
  refine TR.region ?_
  refine RL.move rfl rfl rfl ?_
  refine RL.move rfl rfl rfl ?_
  refine RL.lenStr rfl qb_tstr9 rfl rfl ?_
  refine RL.call rfl rfl Try.call81 rfl (sound_spec ha hl) (fun _ => ?_)
  refine RL.assign rfl rfl rfl ?_
  refine RL.nil ?_
  refine NX.seq ?_
  refine TR.ret ?_
  exact NX.ret1 () rfl rfl rfl (fun w hw => hw)

structure ApX where
  k : Nat
  q : Nat
  B : List UInt8

theorem applyI_spec {s : List UInt8} {es : List Ed} {oa : Option Addr} {ca : Nat} {M : List HP} {F : List Fact} (ha : ArrF oa (edC es) ∈ F) (hl : es.length ≤ 4611686018427387904) (hv : sound1 s.length 0 es = 0) (hb : (applyGo s 0 es).length ≤ 140737488355328) : Ctr Try.prog 65 [S s, .slice oa es.length ca] M F Unit (fun _ => S (applyGo s 0 es)) (fun _ => M) (fun _ => F) := by
  refine Ctr.body Try.func65 rfl rfl ?_
  refine TR.seq ?_
  refine TR.region ?_
  refine RL.assign rfl rfl rfl ?_
  refine RL.nil ?_
  refine NX.seq ?_
  refine TR.seq ?_
  refine TR.region ?_
  refine RL.allocA rfl (Try.zeroValue127) rfl (fun b1 => ?_)
  refine RL.weak (fun w hw => St.bldNew (e := 5) hw) ?_
  refine RL.nil ?_
  refine NX.seq ?_
  refine TR.seq ?_
  refine TR.region ?_
  refine RL.assign rfl rfl rfl ?_
  refine RL.nil ?_
  refine NX.seq ?_
  refine TR.seq ?_
  refine TR.seq ?_
  refine TR.region ?_
  refine RL.move rfl rfl rfl ?_
  refine RL.lenSlice rfl qb_tl26 rfl rfl ?_
  refine RL.move rfl rfl rfl ?_
  refine RL.nil ?_
  refine NX.seq ?_
  refine TR.block ?_
  refine TR.loopP (ι := ApX) (fun x => x.k ≤ es.length ∧ x.q ≤ s.length ∧ sound1 s.length x.q (es.drop x.k) = 0 ∧ x.B ++ applyGo s x.q (es.drop x.k) = applyGo s 0 es) (fun x => [(0, S s), (5, .pointer (some ⟨b1, 0, none⟩)), (6, I x.q), (9, .slice oa es.length ca), (10, I es.length), (11, I x.k)]) (fun x => Bld 127 5 b1 x.B :: M) (fun _ => F) (fun x => es.length - x.k) ⟨0, 0, []⟩ ⟨Nat.zero_le _, Nat.zero_le _, hv, rfl⟩ ⟨rfl, rfl, rfl, rfl, rfl, rfl, trivial⟩ (fun w hw => hw) (fun x hx => ?_)
  refine TR.seq ?_
  refine TR.region ?_
  refine RL.bin rfl rfl rfl BinV.lss rfl ?_
  refine RL.nil ?_
  refine NX.seq ?_
  refine TR.seq ?_
  refine TR.cond rfl (fun h2 => ?_) (fun h2 => ?_)
  · skip
    have hk1 : x.k < es.length := by have := of_decide_eq_true h2; omega
    have hdk := List.drop_eq_getElem_cons hk1
    obtain ⟨hq1, hs1, hg1⟩ := hx.2
    rw [hdk] at hs1 hg1
    obtain ⟨h1, h2, h3, h4, h5⟩ := sound1_cons hs1
    refine TR.openP (open_arr (oa := oa) (xs := edC es) ha (fun e => by have h8 := edC_length es; rw [e] at h8; simp at h8; omega)) (fun pq hpa => ?_)
    have hlen := congrArg List.length hg1
    simp only [applyGo, List.length_append] at hlen
    have hl2 : ((s.take es[x.k].f.toNat).drop x.q).length = es[x.k].f.toNat - x.q := by rw [List.length_drop, List.length_take]; omega
    refine TR.skip ?_
    refine NX.seq ?_
    refine TR.seq ?_
    refine TR.block ?_
    refine TR.seq ?_
    refine TR.region ?_
    refine RL.indexAddr rfl qb_tl26 qb_tz78 (congrArg (fun a => some (Value.slice a _ _)) hpa) rfl (by omega) (by omega) rfl ?_
    refine RL.loadF rfl rfl (fun w K hF => run_ed (hF _ (.head _)) qb_ta78 hk1) rfl ?_
    refine RL.allocA rfl (Try.zeroValue78) rfl (fun b3 => ?_)
    refine RL.storeA 0 rfl rfl rfl rfl qb_tz78 rfl rfl ?_
    refine RL.nil ?_
    refine NX.seq ?_
    refine TR.seq ?_
    refine TR.region ?_
    refine RL.move rfl rfl rfl ?_
    refine RL.move rfl rfl rfl ?_
    refine RL.fieldAddr rfl qb_tf78_0 rfl rfl ?_
    refine RL.load1 0 rfl qb_ts3 rfl rfl rfl rfl ?_
    refine RL.sliceS rfl qb_tstr9 rfl rfl rfl (by omega) (by omega) (by omega) rfl ?_
    refine RL.call rfl rfl Try.call85 rfl (Ctr.frame1 [_] (writeString_spec (by rw [Int.toNat_natCast]; omega))) (fun _ => ?_)
    refine RL.nil ?_
    refine NX.seq ?_
    refine TR.seq ?_
    refine TR.region ?_
    refine RL.fieldAddr rfl qb_tf78_2 rfl rfl ?_
    refine RL.load1 0 rfl qb_ts9 rfl rfl rfl rfl ?_
    refine RL.call rfl rfl Try.call85 rfl (Ctr.frame1 [_] (writeString_spec (by rw [List.length_append, Int.toNat_natCast]; omega))) (fun _ => ?_)
    refine RL.nil ?_
    refine NX.seq ?_
    refine TR.region ?_
    refine RL.fieldAddr rfl qb_tf78_1 rfl rfl ?_
    refine RL.load1 0 rfl qb_ts3 rfl rfl rfl rfl ?_
    refine RL.assign rfl rfl rfl ?_
    refine RL.nil ?_
    refine NX.off ?_
    refine NX.seq ?_
    refine TR.region ?_
    refine RL.bin rfl rfl rfl (BinV.add _ rfl (by omega) (by omega)) rfl ?_
    refine RL.move rfl rfl rfl ?_
    refine RL.nil ?_
    have e9 : ((x.B ++ (s.take es[x.k].f.toNat).drop (x.q : Int).toNat) ++ es[x.k].x) ++ applyGo s es[x.k].t.toNat (es.drop (x.k + 1)) = applyGo s 0 es := by
      rw [← hg1, applyGo, Int.toNat_natCast]; simp only [List.append_assoc]
    refine NX.roundP ⟨x.k + 1, es[x.k].t.toNat, (x.B ++ (s.take es[x.k].f.toNat).drop (x.q : Int).toNat) ++ es[x.k].x⟩ ⟨hk1, (show es[x.k].t.toNat ≤ s.length by omega), ?_, e9⟩ (by show _ - (x.k + 1) < _ - x.k; omega) ⟨rfl, rfl, congrArg (fun z => some (I z)) (show es[x.k].t = ((es[x.k].t.toNat : Nat) : Int) by omega), rfl, rfl, rfl, trivial⟩ (fun w hw => hw.tail.facts (fun φ h => .tail _ (h)))
    show sound1 _ ((es[x.k].t.toNat : Nat) : Int) _ = 0
    rw [Int.toNat_of_nonneg (by omega)]; exact h5
  · skip
    have hk2 : x.k = es.length := by have := of_decide_eq_false h2; have := hx.1; omega
    obtain ⟨hq1, hs1, hg1⟩ := hx.2
    rw [hk2, List.drop_length, applyGo] at hg1
    have hlen := congrArg List.length hg1
    rw [List.length_append, List.length_drop] at hlen
    refine TR.exit ?_
    refine NX.exitThen ?_
    refine NX.exitThen ?_
    refine NX.exitHere ?_
    refine NX.seq ?_
    refine TR.seq ?_
    refine TR.region ?_
    refine RL.move rfl rfl rfl ?_
    refine RL.move rfl rfl rfl ?_
    refine RL.sliceSfrom rfl qb_tstr9 rfl rfl  (by omega) (by omega) rfl ?_
    refine RL.call rfl rfl Try.call85 rfl (writeString_spec (by rw [List.length_drop]; omega)) (fun _ => ?_)
    refine RL.nil ?_
    refine NX.seq ?_
    refine TR.seq ?_
    refine TR.region ?_
    have h9 : x.B ++ s.drop (x.q : Int).toNat = applyGo s 0 es := by rw [Int.toNat_natCast]; exact hg1
    refine RL.call rfl rfl Try.call86 rfl (bString_spec (by rw [h9]; exact hb)) (fun _ => ?_)
    refine RL.assign rfl rfl rfl ?_
    refine RL.nil ?_
    refine NX.seq ?_
    refine TR.ret ?_
    exact NX.ret1 () rfl rfl (by rw [h9]) (fun w hw => hw)

theorem apply_spec {s : List UInt8} {es : List Ed} {oa : Option Addr} {ca : Nat} {M : List HP} {F : List Fact} (ha : ArrF oa (edC es) ∈ F) (hl : es.length ≤ 4611686018427387904) (hb : soundE s.length es = 0 → (applyGo s 0 es).length ≤ 140737488355328) : Ctr Try.prog 30 [S s, .slice oa es.length ca] M F Unit (fun _ => .tuple #[S (applyE s es).1, I (applyE s es).2]) (fun _ => M) (fun _ => F) := by
  refine Ctr.body Try.func30 rfl rfl ?_
  refine TR.seq ?_
  refine TR.region ?_
  refine RL.assign rfl rfl rfl ?_
  refine RL.assign rfl rfl rfl ?_
  refine RL.nil ?_
  refine NX.seq ?_
  refine TR.seq ?_
  refine TR.seq ?_
  refine TR.region ?_
  refine RL.move rfl rfl rfl ?_
  refine RL.move rfl rfl rfl ?_
  refine RL.call rfl rfl Try.call56 rfl (valid_spec ha hl) (fun _ => ?_)
  refine RL.assign rfl rfl rfl ?_
  refine RL.nil ?_
  refine NX.seq ?_
  refine TR.seq ?_
  refine TR.region ?_
  refine RL.move rfl rfl rfl ?_
  refine RL.bin rfl rfl rfl BinV.neq rfl ?_
  refine RL.nil ?_
  refine NX.seq ?_
  refine TR.cond rfl (fun h1 => ?_) (fun h1 => ?_)
  · skip
    have hz : ¬ soundE s.length es = 0 := of_decide_eq_true h1
    refine TR.seq ?_
    refine TR.region ?_
    refine RL.move rfl rfl rfl ?_
    refine RL.assign rfl rfl rfl ?_
    refine RL.assign rfl rfl rfl ?_
    refine RL.nil ?_
    refine NX.seq ?_
    refine TR.ret ?_
    refine NX.retThen ?_
    exact NX.ret2 () rfl rfl rfl (by unfold applyE; rw [if_neg hz]) (fun w hw => hw)
  · skip
    have hz : soundE s.length es = 0 := by have := of_decide_eq_false h1; omega
    refine TR.skip ?_
    refine NX.seq ?_
    refine TR.seq ?_
    refine TR.region ?_
    refine RL.move rfl rfl rfl ?_
    refine RL.move rfl rfl rfl ?_
    refine RL.call rfl rfl Try.call65 rfl (applyI_spec ha hl (soundE_sound1 hz) (hb hz)) (fun _ => ?_)
    refine RL.assign rfl rfl rfl ?_
    refine RL.assign rfl rfl rfl ?_
    refine RL.nil ?_
    refine NX.seq ?_
    refine TR.ret ?_
    exact NX.ret2 () rfl rfl rfl (by unfold applyE; rw [if_pos hz]) (fun w hw => hw)

structure DfX where
  es : List Ed
  oa : Option Addr
  oc : Nat

theorem diff_spec {a b : List UInt8} {M : List HP} {F : List Fact} (hla : a.length ≤ 4611686018427387904) (hlb : b.length ≤ 4611686018427387904) : Ctr Try.prog 55 [S a, S b] M F {z : DfX // DiffOk a b z.es} (fun z => .slice z.1.oa z.1.es.length z.1.oc) (fun _ => M) (fun z => ArrF z.1.oa (edC z.1.es) :: F) := by
  refine Ctr.body Try.func55 rfl rfl ?_
  refine TR.seq ?_
  refine TR.region ?_
  refine RL.assign rfl rfl rfl ?_
  refine RL.nil ?_
  refine NX.seq ?_
  refine TR.seq ?_
  refine TR.seq ?_
  refine TR.region ?_
  refine RL.move rfl rfl rfl ?_
  refine RL.move rfl rfl rfl ?_
  refine RL.bin rfl rfl rfl BinV.eqlS rfl ?_
  refine RL.nil ?_
  refine NX.seq ?_
  refine TR.cond rfl (fun h1 => ?_) (fun h1 => ?_)
  · skip
    have hab : a = b := of_decide_eq_true h1
    refine TR.seq ?_
    refine TR.region ?_
    refine RL.assign rfl rfl rfl ?_
    refine RL.nil ?_
    refine NX.seq ?_
    refine TR.ret ?_
    refine NX.retThen ?_
    exact NX.ret1x rfl rfl (fun w hw => ⟨⟨⟨[], none, 0⟩, diff_none hab⟩, rfl, hw.arr0⟩)
  · skip
    refine TR.skip ?_
    refine NX.seq ?_
    refine TR.seq ?_
    refine TR.region ?_
    refine RL.move rfl rfl rfl ?_
    refine RL.lenStr rfl qb_tstr9 rfl rfl ?_
    refine RL.move rfl rfl rfl ?_
    refine RL.lenStr rfl qb_tstr9 rfl rfl ?_
    refine RL.min rfl rfl rfl rfl ?_
    refine RL.assign rfl rfl rfl ?_
    refine RL.nil ?_
    refine NX.seq ?_
    refine TR.seq ?_
    refine TR.region ?_
    refine RL.assign rfl rfl rfl ?_
    refine RL.nil ?_
    refine NX.seq ?_
    refine TR.seq ?_
    refine TR.block ?_
    refine TR.loopP (ι := Nat) (fun x => x ≤ a.length ∧ x ≤ b.length ∧ a.take x = b.take x) (fun x => [(0, S a), (1, S b), (5, I (min (a.length : Int) b.length)), (6, I x)]) (fun _ => M) (fun _ => F) (fun x => a.length - x) 0 ⟨Nat.zero_le _, Nat.zero_le _, rfl⟩ ⟨rfl, rfl, rfl, rfl, trivial⟩ (fun w hw => hw) (fun x hx => ?_)
    refine TR.seq ?_
    refine TR.seq ?_
    refine TR.sub (E' := [(0, _), (1, _), (5, _), (6, _)]) ⟨rfl, rfl, rfl, rfl, trivial⟩ ?_
    refine TR.draw mixed ?_
    cases h2 : decide ((x : Int) < min (a.length : Int) b.length)
    · skip
      apply AR.more [(0, _), (1, _), (2, _), (3, .bool false), (4, undef), (5, undef), (6, undef), (7, undef), (8, undef), (9, undef), (10, undef), (11, .bool false)]
      refine AR.last [0, 1, 2, 3, 4, 5, 6, 7, 8, 9, 10, 11] [0, 1, 2, 3, 4, 5, 6, 7, 8, 9, 10, 11] ⟨QOne.yes rfl rfl rfl (PV.move rfl), QOne.yes rfl rfl rfl (PV.move rfl), QOne.yes rfl rfl rfl (PV.bin rfl rfl BinV.lss), QOne.yes rfl rfl rfl (PV.cast (congrArg Value.bool h2) (PV.move rfl)), QOne.no rfl rfl rfl, QOne.no rfl rfl rfl, QOne.no rfl rfl rfl, QOne.no rfl rfl rfl, QOne.no rfl rfl rfl, QOne.no rfl rfl rfl, QOne.no rfl rfl rfl, QOne.yes rfl rfl rfl (PV.pickF rfl rfl), trivial⟩ rfl rfl rfl ?_
      refine NX.sub (E' := [(0, _), (1, _), (5, _), (6, _), (16, _), (17, _), (18, _), (19, _), (20, _), (21, _), (22, _), (23, _), (24, _), (25, _), (26, _), (27, _)]) ⟨rfl, rfl, rfl, rfl, rfl, rfl, rfl, rfl, rfl, rfl, rfl, rfl, rfl, rfl, rfl, rfl, trivial⟩ ?_
      refine NX.seq ?_
      refine TR.condF rfl ?_
      refine TR.exit ?_
      refine NX.exitThen ?_
      refine NX.exitThen ?_
      refine NX.exitHere ?_
      refine NX.seq ?_
      refine TR.seq ?_
      refine TR.region ?_
      refine RL.assign rfl rfl rfl ?_
      refine RL.nil ?_
      refine NX.seq ?_
      refine TR.seq ?_
      refine TR.block ?_
      refine TR.loopP (ι := Nat) (fun y => x + y ≤ a.length ∧ x + y ≤ b.length ∧ a.drop (a.length - y) = b.drop (b.length - y)) (fun y => [(0, S a), (1, S b), (5, I (min (a.length : Int) b.length)), (6, I x), (7, I y)]) (fun _ => M) (fun _ => F) (fun y => a.length - y) 0 ⟨hx.1, hx.2.1, by simp⟩ ⟨rfl, rfl, rfl, rfl, rfl, trivial⟩ (fun w hw => hw) (fun y hy => ?_)
      refine TR.seq ?_
      refine TR.seq ?_
      refine TR.sub (E' := [(0, _), (1, _), (5, _), (6, _), (7, _)]) ⟨rfl, rfl, rfl, rfl, rfl, trivial⟩ ?_
      refine TR.draw mixed ?_
      cases h3 : decide ((y : Int) < min (a.length : Int) b.length - x)
      · skip
        apply AR.more [(0, _), (1, _), (2, _), (3, _), (4, _), (5, .bool false), (6, undef), (7, undef), (8, undef), (9, undef), (10, undef), (11, undef), (12, undef), (13, undef), (14, undef), (15, undef), (16, undef), (17, undef), (18, undef), (19, undef), (20, undef), (21, .bool false)]
        refine AR.last [0, 1, 2, 3, 4, 5, 6, 7, 8, 9, 10, 11, 12, 13, 14, 15, 16, 17, 18, 19, 20, 21] [0, 1, 2, 3, 4, 5, 6, 7, 8, 9, 10, 11, 12, 13, 14, 15, 16, 17, 18, 19, 20, 21] ⟨QOne.yes rfl rfl rfl (PV.move rfl), QOne.yes rfl rfl rfl (PV.move rfl), QOne.yes rfl rfl rfl (PV.move rfl), QOne.yes rfl rfl rfl (PV.bin rfl rfl (BinV.sub _ rfl (by omega) (by omega))), QOne.yes rfl rfl rfl (PV.bin rfl rfl BinV.lss), QOne.yes rfl rfl rfl (PV.cast (congrArg Value.bool h3) (PV.move rfl)), QOne.no rfl rfl rfl, QOne.no rfl rfl rfl, QOne.no rfl rfl rfl, QOne.no rfl rfl rfl, QOne.no rfl rfl rfl, QOne.no rfl rfl rfl, QOne.no rfl rfl rfl, QOne.no rfl rfl rfl, QOne.no rfl rfl rfl, QOne.no rfl rfl rfl, QOne.no rfl rfl rfl, QOne.no rfl rfl rfl, QOne.no rfl rfl rfl, QOne.no rfl rfl rfl, QOne.no rfl rfl rfl, QOne.yes rfl rfl rfl (PV.pickF rfl rfl), trivial⟩ rfl rfl rfl ?_
        refine NX.sub (E' := [(0, _), (1, _), (5, _), (6, _), (7, _), (30, _), (31, _), (32, _), (33, _), (34, _), (35, _), (36, _), (37, _), (38, _), (39, _), (40, _), (41, _), (42, _), (43, _), (44, _), (45, _), (46, _), (47, _), (48, _), (49, _), (50, _), (51, _)]) ⟨rfl, rfl, rfl, rfl, rfl, rfl, rfl, rfl, rfl, rfl, rfl, rfl, rfl, rfl, rfl, rfl, rfl, rfl, rfl, rfl, rfl, rfl, rfl, rfl, rfl, rfl, rfl, trivial⟩ ?_
        refine NX.seq ?_
        refine TR.condF rfl ?_
        refine TR.exit ?_
        refine NX.exitThen ?_
        refine NX.exitThen ?_
        refine NX.exitHere ?_
        refine NX.seq ?_
        refine TR.seq ?_
        refine TR.region ?_
        refine RL.move rfl rfl rfl ?_
        refine RL.move rfl rfl rfl ?_
        refine RL.lenStr rfl qb_tstr9 rfl rfl ?_
        refine RL.move rfl rfl rfl ?_
        refine RL.bin rfl rfl rfl (BinV.sub _ rfl (by omega) (by omega)) rfl ?_
        refine RL.move rfl rfl rfl ?_
        refine RL.move rfl rfl rfl ?_
        refine RL.move rfl rfl rfl ?_
        refine RL.lenStr rfl qb_tstr9 rfl rfl ?_
        refine RL.move rfl rfl rfl ?_
        refine RL.bin rfl rfl rfl (BinV.sub _ rfl (by omega) (by omega)) rfl ?_
        refine RL.sliceS rfl qb_tstr9 rfl rfl rfl (by omega) (by omega) (by omega) rfl ?_
        refine RL.build rfl rfl (qb_bv78_0_1_2 _ _ _) rfl ?_
        refine RL.buildSlice rfl rfl (qb_bs26_1_0 _ _ _) rfl (fun b4 => ?_)
        refine RL.assign rfl rfl rfl ?_
        refine RL.nil ?_
        refine NX.seq ?_
        refine TR.ret ?_
        have hD := diff_some hx.2.2 hy.1 hy.2.1 hy.2.2
        have e1 : ((b.length : Int) - y).toNat = b.length - y := by omega
        have e2 : ((a.length : Int) - y) = ((a.length - y : Nat) : Int) := by omega
        refine NX.ret1x rfl rfl (fun w hw => ⟨⟨⟨[⟨x, (a.length - y : Nat), (b.take (b.length - y)).drop x⟩], _, 1⟩, hD⟩, rfl, ?_⟩)
        have h9 := hw.boxArr
        rw [e1, e2, Int.toNat_natCast] at h9
        exact h9
      · skip
        have hy1 : x + y < a.length ∧ x + y < b.length := by have := of_decide_eq_true h3; omega
        have hya : (((a.length : Int) - 1) - y).toNat < a.length := by omega
        have hyb : (((b.length : Int) - 1) - y).toNat < b.length := by omega
        apply AR.more [(0, _), (1, _), (2, _), (3, _), (4, _), (5, .bool true), (6, _), (7, _), (8, _), (9, _), (10, _), (11, _), (12, _), (13, _), (14, _), (15, _), (16, _), (17, _), (18, _), (19, _), (20, _), (21, _)]
        refine AR.last [0, 1, 2, 3, 4, 5, 6, 7, 8, 9, 10, 11, 12, 13, 14, 15, 16, 17, 18, 19, 20, 21] [0, 1, 2, 3, 4, 5, 6, 7, 8, 9, 10, 11, 12, 13, 14, 15, 16, 17, 18, 19, 20, 21] ⟨QOne.yes rfl rfl rfl (PV.move rfl), QOne.yes rfl rfl rfl (PV.move rfl), QOne.yes rfl rfl rfl (PV.move rfl), QOne.yes rfl rfl rfl (PV.bin rfl rfl (BinV.sub _ rfl (by omega) (by omega))), QOne.yes rfl rfl rfl (PV.bin rfl rfl BinV.lss), QOne.yes rfl rfl rfl (PV.cast (congrArg Value.bool h3) (PV.move rfl)), QOne.yes rfl rfl rfl (PV.move rfl), QOne.yes rfl rfl rfl (PV.move rfl), QOne.yes rfl rfl rfl (PV.lenStr qb_tstr9 rfl), QOne.yes rfl rfl rfl (PV.bin rfl rfl (BinV.sub _ rfl (by omega) (by omega))), QOne.yes rfl rfl rfl (PV.move rfl), QOne.yes rfl rfl rfl (PV.bin rfl rfl (BinV.sub _ rfl (by omega) (by omega))), QOne.yes rfl rfl rfl (PV.indexS qb_tstr9 rfl rfl (by omega) (List.getElem?_eq_getElem hya)), QOne.yes rfl rfl rfl (PV.move rfl), QOne.yes rfl rfl rfl (PV.move rfl), QOne.yes rfl rfl rfl (PV.lenStr qb_tstr9 rfl), QOne.yes rfl rfl rfl (PV.bin rfl rfl (BinV.sub _ rfl (by omega) (by omega))), QOne.yes rfl rfl rfl (PV.move rfl), QOne.yes rfl rfl rfl (PV.bin rfl rfl (BinV.sub _ rfl (by omega) (by omega))), QOne.yes rfl rfl rfl (PV.indexS qb_tstr9 rfl rfl (by omega) (List.getElem?_eq_getElem hyb)), QOne.yes rfl rfl rfl (PV.bin rfl rfl BinV.eql), QOne.yes rfl rfl rfl (PV.pickT rfl rfl), trivial⟩ rfl rfl rfl ?_
        refine NX.sub (E' := [(0, _), (1, _), (5, _), (6, _), (7, _), (30, _), (31, _), (32, _), (33, _), (34, _), (35, _), (36, _), (37, _), (38, _), (39, _), (40, _), (41, _), (42, _), (43, _), (44, _), (45, _), (46, _), (47, _), (48, _), (49, _), (50, _), (51, _)]) ⟨rfl, rfl, rfl, rfl, rfl, rfl, rfl, rfl, rfl, rfl, rfl, rfl, rfl, rfl, rfl, rfl, rfl, rfl, rfl, rfl, rfl, rfl, rfl, rfl, rfl, rfl, rfl, trivial⟩ ?_
        refine NX.seq ?_
        refine TR.cond rfl (fun h5 => ?_) (fun h5 => ?_)
        · skip
          have hch : a[a.length - 1 - y]'(by omega) = b[b.length - 1 - y]'(by omega) := by
            have h8 := byte_eq (of_decide_eq_true h5)
            have e1 : (((a.length : Int) - 1) - y).toNat = a.length - 1 - y := by omega
            have e2 : (((b.length : Int) - 1) - y).toNat = b.length - 1 - y := by omega
            simp only [e1, e2] at h8
            exact h8
          refine TR.skip ?_
          refine NX.seq ?_
          refine TR.block ?_
          refine TR.region ?_
          refine RL.move rfl rfl rfl ?_
          refine RL.bin rfl rfl rfl (BinV.add _ rfl (by omega) (by omega)) rfl ?_
          refine RL.assign rfl rfl rfl ?_
          refine RL.nil ?_
          refine NX.off ?_
          refine NX.roundP (y + 1) ⟨by omega, by omega, suffix_step (by omega) (by omega) hy.2.2 hch⟩ (by omega) ⟨rfl, rfl, rfl, rfl, rfl, trivial⟩ (fun w hw => hw)
        · skip
          refine TR.exit ?_
          refine NX.exitThen ?_
          refine NX.exitThen ?_
          refine NX.exitHere ?_
          refine NX.seq ?_
          refine TR.seq ?_
          refine TR.region ?_
          refine RL.move rfl rfl rfl ?_
          refine RL.move rfl rfl rfl ?_
          refine RL.lenStr rfl qb_tstr9 rfl rfl ?_
          refine RL.move rfl rfl rfl ?_
          refine RL.bin rfl rfl rfl (BinV.sub _ rfl (by omega) (by omega)) rfl ?_
          refine RL.move rfl rfl rfl ?_
          refine RL.move rfl rfl rfl ?_
          refine RL.move rfl rfl rfl ?_
          refine RL.lenStr rfl qb_tstr9 rfl rfl ?_
          refine RL.move rfl rfl rfl ?_
          refine RL.bin rfl rfl rfl (BinV.sub _ rfl (by omega) (by omega)) rfl ?_
          refine RL.sliceS rfl qb_tstr9 rfl rfl rfl (by omega) (by omega) (by omega) rfl ?_
          refine RL.build rfl rfl (qb_bv78_0_1_2 _ _ _) rfl ?_
          refine RL.buildSlice rfl rfl (qb_bs26_1_0 _ _ _) rfl (fun b6 => ?_)
          refine RL.assign rfl rfl rfl ?_
          refine RL.nil ?_
          refine NX.seq ?_
          refine TR.ret ?_
          have hD := diff_some hx.2.2 hy.1 hy.2.1 hy.2.2
          have e1 : ((b.length : Int) - y).toNat = b.length - y := by omega
          have e2 : ((a.length : Int) - y) = ((a.length - y : Nat) : Int) := by omega
          refine NX.ret1x rfl rfl (fun w hw => ⟨⟨⟨[⟨x, (a.length - y : Nat), (b.take (b.length - y)).drop x⟩], _, 1⟩, hD⟩, rfl, ?_⟩)
          have h9 := hw.boxArr
          rw [e1, e2, Int.toNat_natCast] at h9
          exact h9
    · skip
      have hx1 : x < a.length ∧ x < b.length := by have := of_decide_eq_true h2; omega
      have hxa : (x : Int).toNat < a.length := by omega
      have hxb : (x : Int).toNat < b.length := by omega
      apply AR.more [(0, _), (1, _), (2, _), (3, .bool true), (4, _), (5, _), (6, _), (7, _), (8, _), (9, _), (10, _), (11, _)]
      refine AR.last [0, 1, 2, 3, 4, 5, 6, 7, 8, 9, 10, 11] [0, 1, 2, 3, 4, 5, 6, 7, 8, 9, 10, 11] ⟨QOne.yes rfl rfl rfl (PV.move rfl), QOne.yes rfl rfl rfl (PV.move rfl), QOne.yes rfl rfl rfl (PV.bin rfl rfl BinV.lss), QOne.yes rfl rfl rfl (PV.cast (congrArg Value.bool h2) (PV.move rfl)), QOne.yes rfl rfl rfl (PV.move rfl), QOne.yes rfl rfl rfl (PV.move rfl), QOne.yes rfl rfl rfl (PV.indexS qb_tstr9 rfl rfl (by omega) (List.getElem?_eq_getElem hxa)), QOne.yes rfl rfl rfl (PV.move rfl), QOne.yes rfl rfl rfl (PV.move rfl), QOne.yes rfl rfl rfl (PV.indexS qb_tstr9 rfl rfl (by omega) (List.getElem?_eq_getElem hxb)), QOne.yes rfl rfl rfl (PV.bin rfl rfl BinV.eql), QOne.yes rfl rfl rfl (PV.pickT rfl rfl), trivial⟩ rfl rfl rfl ?_
      refine NX.sub (E' := [(0, _), (1, _), (5, _), (6, _), (16, _), (17, _), (18, _), (19, _), (20, _), (21, _), (22, _), (23, _), (24, _), (25, _), (26, _), (27, _)]) ⟨rfl, rfl, rfl, rfl, rfl, rfl, rfl, rfl, rfl, rfl, rfl, rfl, rfl, rfl, rfl, rfl, trivial⟩ ?_
      refine NX.seq ?_
      refine TR.cond rfl (fun h7 => ?_) (fun h7 => ?_)
      · skip
        have hch : a[x]'hx1.1 = b[x]'hx1.2 := byte_eq (of_decide_eq_true h7)
        refine TR.skip ?_
        refine NX.seq ?_
        refine TR.block ?_
        refine TR.region ?_
        refine RL.move rfl rfl rfl ?_
        refine RL.bin rfl rfl rfl (BinV.add _ rfl (by omega) (by omega)) rfl ?_
        refine RL.assign rfl rfl rfl ?_
        refine RL.nil ?_
        refine NX.off ?_
        refine NX.roundP (x + 1) ⟨by omega, by omega, takeEq_step hx1.1 hx1.2 hx.2.2 hch⟩ (by omega) ⟨rfl, rfl, rfl, rfl, trivial⟩ (fun w hw => hw)
      · skip
        refine TR.exit ?_
        refine NX.exitThen ?_
        refine NX.exitThen ?_
        refine NX.exitHere ?_
        refine NX.seq ?_
        refine TR.seq ?_
        refine TR.region ?_
        refine RL.assign rfl rfl rfl ?_
        refine RL.nil ?_
        refine NX.seq ?_
        refine TR.seq ?_
        refine TR.block ?_
        refine TR.loopP (ι := Nat) (fun y => x + y ≤ a.length ∧ x + y ≤ b.length ∧ a.drop (a.length - y) = b.drop (b.length - y)) (fun y => [(0, S a), (1, S b), (5, I (min (a.length : Int) b.length)), (6, I x), (7, I y)]) (fun _ => M) (fun _ => F) (fun y => a.length - y) 0 ⟨hx.1, hx.2.1, by simp⟩ ⟨rfl, rfl, rfl, rfl, rfl, trivial⟩ (fun w hw => hw) (fun y hy => ?_)
        refine TR.seq ?_
        refine TR.seq ?_
        refine TR.sub (E' := [(0, _), (1, _), (5, _), (6, _), (7, _)]) ⟨rfl, rfl, rfl, rfl, rfl, trivial⟩ ?_
        refine TR.draw mixed ?_
        cases h8 : decide ((y : Int) < min (a.length : Int) b.length - x)
        · skip
          apply AR.more [(0, _), (1, _), (2, _), (3, _), (4, _), (5, .bool false), (6, undef), (7, undef), (8, undef), (9, undef), (10, undef), (11, undef), (12, undef), (13, undef), (14, undef), (15, undef), (16, undef), (17, undef), (18, undef), (19, undef), (20, undef), (21, .bool false)]
          refine AR.last [0, 1, 2, 3, 4, 5, 6, 7, 8, 9, 10, 11, 12, 13, 14, 15, 16, 17, 18, 19, 20, 21] [0, 1, 2, 3, 4, 5, 6, 7, 8, 9, 10, 11, 12, 13, 14, 15, 16, 17, 18, 19, 20, 21] ⟨QOne.yes rfl rfl rfl (PV.move rfl), QOne.yes rfl rfl rfl (PV.move rfl), QOne.yes rfl rfl rfl (PV.move rfl), QOne.yes rfl rfl rfl (PV.bin rfl rfl (BinV.sub _ rfl (by omega) (by omega))), QOne.yes rfl rfl rfl (PV.bin rfl rfl BinV.lss), QOne.yes rfl rfl rfl (PV.cast (congrArg Value.bool h8) (PV.move rfl)), QOne.no rfl rfl rfl, QOne.no rfl rfl rfl, QOne.no rfl rfl rfl, QOne.no rfl rfl rfl, QOne.no rfl rfl rfl, QOne.no rfl rfl rfl, QOne.no rfl rfl rfl, QOne.no rfl rfl rfl, QOne.no rfl rfl rfl, QOne.no rfl rfl rfl, QOne.no rfl rfl rfl, QOne.no rfl rfl rfl, QOne.no rfl rfl rfl, QOne.no rfl rfl rfl, QOne.no rfl rfl rfl, QOne.yes rfl rfl rfl (PV.pickF rfl rfl), trivial⟩ rfl rfl rfl ?_
          refine NX.sub (E' := [(0, _), (1, _), (5, _), (6, _), (7, _), (30, _), (31, _), (32, _), (33, _), (34, _), (35, _), (36, _), (37, _), (38, _), (39, _), (40, _), (41, _), (42, _), (43, _), (44, _), (45, _), (46, _), (47, _), (48, _), (49, _), (50, _), (51, _)]) ⟨rfl, rfl, rfl, rfl, rfl, rfl, rfl, rfl, rfl, rfl, rfl, rfl, rfl, rfl, rfl, rfl, rfl, rfl, rfl, rfl, rfl, rfl, rfl, rfl, rfl, rfl, rfl, trivial⟩ ?_
          refine NX.seq ?_
          refine TR.condF rfl ?_
          refine TR.exit ?_
          refine NX.exitThen ?_
          refine NX.exitThen ?_
          refine NX.exitHere ?_
          refine NX.seq ?_
          refine TR.seq ?_
          refine TR.region ?_
          refine RL.move rfl rfl rfl ?_
          refine RL.move rfl rfl rfl ?_
          refine RL.lenStr rfl qb_tstr9 rfl rfl ?_
          refine RL.move rfl rfl rfl ?_
          refine RL.bin rfl rfl rfl (BinV.sub _ rfl (by omega) (by omega)) rfl ?_
          refine RL.move rfl rfl rfl ?_
          refine RL.move rfl rfl rfl ?_
          refine RL.move rfl rfl rfl ?_
          refine RL.lenStr rfl qb_tstr9 rfl rfl ?_
          refine RL.move rfl rfl rfl ?_
          refine RL.bin rfl rfl rfl (BinV.sub _ rfl (by omega) (by omega)) rfl ?_
          refine RL.sliceS rfl qb_tstr9 rfl rfl rfl (by omega) (by omega) (by omega) rfl ?_
          refine RL.build rfl rfl (qb_bv78_0_1_2 _ _ _) rfl ?_
          refine RL.buildSlice rfl rfl (qb_bs26_1_0 _ _ _) rfl (fun b9 => ?_)
          refine RL.assign rfl rfl rfl ?_
          refine RL.nil ?_
          refine NX.seq ?_
          refine TR.ret ?_
          have hD := diff_some hx.2.2 hy.1 hy.2.1 hy.2.2
          have e1 : ((b.length : Int) - y).toNat = b.length - y := by omega
          have e2 : ((a.length : Int) - y) = ((a.length - y : Nat) : Int) := by omega
          refine NX.ret1x rfl rfl (fun w hw => ⟨⟨⟨[⟨x, (a.length - y : Nat), (b.take (b.length - y)).drop x⟩], _, 1⟩, hD⟩, rfl, ?_⟩)
          have h9 := hw.boxArr
          rw [e1, e2, Int.toNat_natCast] at h9
          exact h9
        · skip
          have hy1 : x + y < a.length ∧ x + y < b.length := by have := of_decide_eq_true h8; omega
          have hya : (((a.length : Int) - 1) - y).toNat < a.length := by omega
          have hyb : (((b.length : Int) - 1) - y).toNat < b.length := by omega
          apply AR.more [(0, _), (1, _), (2, _), (3, _), (4, _), (5, .bool true), (6, _), (7, _), (8, _), (9, _), (10, _), (11, _), (12, _), (13, _), (14, _), (15, _), (16, _), (17, _), (18, _), (19, _), (20, _), (21, _)]
          refine AR.last [0, 1, 2, 3, 4, 5, 6, 7, 8, 9, 10, 11, 12, 13, 14, 15, 16, 17, 18, 19, 20, 21] [0, 1, 2, 3, 4, 5, 6, 7, 8, 9, 10, 11, 12, 13, 14, 15, 16, 17, 18, 19, 20, 21] ⟨QOne.yes rfl rfl rfl (PV.move rfl), QOne.yes rfl rfl rfl (PV.move rfl), QOne.yes rfl rfl rfl (PV.move rfl), QOne.yes rfl rfl rfl (PV.bin rfl rfl (BinV.sub _ rfl (by omega) (by omega))), QOne.yes rfl rfl rfl (PV.bin rfl rfl BinV.lss), QOne.yes rfl rfl rfl (PV.cast (congrArg Value.bool h8) (PV.move rfl)), QOne.yes rfl rfl rfl (PV.move rfl), QOne.yes rfl rfl rfl (PV.move rfl), QOne.yes rfl rfl rfl (PV.lenStr qb_tstr9 rfl), QOne.yes rfl rfl rfl (PV.bin rfl rfl (BinV.sub _ rfl (by omega) (by omega))), QOne.yes rfl rfl rfl (PV.move rfl), QOne.yes rfl rfl rfl (PV.bin rfl rfl (BinV.sub _ rfl (by omega) (by omega))), QOne.yes rfl rfl rfl (PV.indexS qb_tstr9 rfl rfl (by omega) (List.getElem?_eq_getElem hya)), QOne.yes rfl rfl rfl (PV.move rfl), QOne.yes rfl rfl rfl (PV.move rfl), QOne.yes rfl rfl rfl (PV.lenStr qb_tstr9 rfl), QOne.yes rfl rfl rfl (PV.bin rfl rfl (BinV.sub _ rfl (by omega) (by omega))), QOne.yes rfl rfl rfl (PV.move rfl), QOne.yes rfl rfl rfl (PV.bin rfl rfl (BinV.sub _ rfl (by omega) (by omega))), QOne.yes rfl rfl rfl (PV.indexS qb_tstr9 rfl rfl (by omega) (List.getElem?_eq_getElem hyb)), QOne.yes rfl rfl rfl (PV.bin rfl rfl BinV.eql), QOne.yes rfl rfl rfl (PV.pickT rfl rfl), trivial⟩ rfl rfl rfl ?_
          refine NX.sub (E' := [(0, _), (1, _), (5, _), (6, _), (7, _), (30, _), (31, _), (32, _), (33, _), (34, _), (35, _), (36, _), (37, _), (38, _), (39, _), (40, _), (41, _), (42, _), (43, _), (44, _), (45, _), (46, _), (47, _), (48, _), (49, _), (50, _), (51, _)]) ⟨rfl, rfl, rfl, rfl, rfl, rfl, rfl, rfl, rfl, rfl, rfl, rfl, rfl, rfl, rfl, rfl, rfl, rfl, rfl, rfl, rfl, rfl, rfl, rfl, rfl, rfl, rfl, trivial⟩ ?_
          refine NX.seq ?_
          refine TR.cond rfl (fun h10 => ?_) (fun h10 => ?_)
          · skip
            have hch : a[a.length - 1 - y]'(by omega) = b[b.length - 1 - y]'(by omega) := by
              have h8 := byte_eq (of_decide_eq_true h10)
              have e1 : (((a.length : Int) - 1) - y).toNat = a.length - 1 - y := by omega
              have e2 : (((b.length : Int) - 1) - y).toNat = b.length - 1 - y := by omega
              simp only [e1, e2] at h8
              exact h8
            refine TR.skip ?_
            refine NX.seq ?_
            refine TR.block ?_
            refine TR.region ?_
            refine RL.move rfl rfl rfl ?_
            refine RL.bin rfl rfl rfl (BinV.add _ rfl (by omega) (by omega)) rfl ?_
            refine RL.assign rfl rfl rfl ?_
            refine RL.nil ?_
            refine NX.off ?_
            refine NX.roundP (y + 1) ⟨by omega, by omega, suffix_step (by omega) (by omega) hy.2.2 hch⟩ (by omega) ⟨rfl, rfl, rfl, rfl, rfl, trivial⟩ (fun w hw => hw)
          · skip
            refine TR.exit ?_
            refine NX.exitThen ?_
            refine NX.exitThen ?_
            refine NX.exitHere ?_
            refine NX.seq ?_
            refine TR.seq ?_
            refine TR.region ?_
            refine RL.move rfl rfl rfl ?_
            refine RL.move rfl rfl rfl ?_
            refine RL.lenStr rfl qb_tstr9 rfl rfl ?_
            refine RL.move rfl rfl rfl ?_
            refine RL.bin rfl rfl rfl (BinV.sub _ rfl (by omega) (by omega)) rfl ?_
            refine RL.move rfl rfl rfl ?_
            refine RL.move rfl rfl rfl ?_
            refine RL.move rfl rfl rfl ?_
            refine RL.lenStr rfl qb_tstr9 rfl rfl ?_
            refine RL.move rfl rfl rfl ?_
            refine RL.bin rfl rfl rfl (BinV.sub _ rfl (by omega) (by omega)) rfl ?_
            refine RL.sliceS rfl qb_tstr9 rfl rfl rfl (by omega) (by omega) (by omega) rfl ?_
            refine RL.build rfl rfl (qb_bv78_0_1_2 _ _ _) rfl ?_
            refine RL.buildSlice rfl rfl (qb_bs26_1_0 _ _ _) rfl (fun b11 => ?_)
            refine RL.assign rfl rfl rfl ?_
            refine RL.nil ?_
            refine NX.seq ?_
            refine TR.ret ?_
            have hD := diff_some hx.2.2 hy.1 hy.2.1 hy.2.2
            have e1 : ((b.length : Int) - y).toNat = b.length - y := by omega
            have e2 : ((a.length : Int) - y) = ((a.length - y : Nat) : Int) := by omega
            refine NX.ret1x rfl rfl (fun w hw => ⟨⟨⟨[⟨x, (a.length - y : Nat), (b.take (b.length - y)).drop x⟩], _, 1⟩, hD⟩, rfl, ?_⟩)
            have h9 := hw.boxArr
            rw [e1, e2, Int.toNat_natCast] at h9
            exact h9

end Go.Proofs.Ytkdeopioelocnaa

namespace Go.GL
set_option linter.unusedVariables false
theorem snoc_ind {α : Type} {p : List α → Prop} (h0 : p []) (h1 : ∀ l x, p l → p (l ++ [x])) (l : List α) : p l := by
  have h : ∀ l : List α, p l.reverse := by
    intro l
    induction l with
    | nil => simpa using h0
    | cons a l ih => rw [List.reverse_cons]; exact h1 _ _ ih
  have := h l.reverse
  rwa [List.reverse_reverse] at this
structure Pa where
  o : Int
  n : Int
  s : Int
def partEnc : Pa → List Value → Prop := fun p args => args = [.agg #[I p.o, I p.n, I p.s]]
theorem partEnc_len (x : Pa) (args : List Value) (h : partEnc x args) : args.length = 1 := by rw [show args = _ from h]; rfl
def growE (e : Ed) : Int := (e.x.length : Int) - (e.t - e.f)
def keptL (size : Int) : Int → Int → List Ed → List Pa
  | old, sh, [] => [⟨old, old + sh, size - old⟩]
  | old, sh, e :: es => ⟨old, old + sh, e.f - old⟩ :: keptL size e.t (sh + growE e) es
def pick2 (p q : Pa) : Option Pa := if max p.n q.o < min (p.n + p.s) (q.o + q.s) then some ⟨p.o + max p.n q.o - p.n, q.n + max p.n q.o - q.o, min (p.n + p.s) (q.o + q.s) - max p.n q.o⟩ else none
def bothIn (qs : List Pa) (p : Pa) : List Pa := qs.filterMap (pick2 p)
def bothL (ps qs : List Pa) : List Pa := ps.flatMap (bothIn qs)
theorem bothL_snoc (ps qs : List Pa) (p : Pa) : bothL (ps ++ [p]) qs = bothL ps qs ++ bothIn qs p := by simp [bothL]
theorem bothIn_snoc (qs : List Pa) (p q : Pa) : bothIn (qs ++ [q]) p = bothIn qs p ++ (match pick2 p q with | some r => [r] | none => []) := by
  unfold bothIn
  rw [List.filterMap_append]
  congr 1
  cases h : pick2 p q <;> simp [h]
def sumG (es : List Ed) : Int := (es.map growE).sum
/-- a part within two texts -/
structure PaIn (z m : Int) (p : Pa) : Prop where
  o0 : 0 ≤ p.o
  n0 : 0 ≤ p.n
  s0 : 0 ≤ p.s
  ot : p.o + p.s ≤ z
  nt : p.n + p.s ≤ m
def Before (p q : Pa) : Prop := p.o + p.s ≤ q.o ∧ p.n + p.s ≤ q.n
theorem kept_in {n : Int} : ∀ {es : List Ed} {old sh : Int}, 0 ≤ old → old ≤ n → 0 ≤ old + sh → sound1 n old es = 0 → ∀ p, p ∈ keptL n old sh es → PaIn n (n + sh + sumG es) p ∧ old ≤ p.o ∧ old + sh ≤ p.n
  | [], old, sh, h0, h1, h2, _, p, hp => by
    rw [keptL, List.mem_singleton] at hp
    subst hp
    exact ⟨⟨h0, h2, by show 0 ≤ n - old; omega, by show old + (n - old) ≤ n; omega, by show old + sh + (n - old) ≤ n + sh + sumG []; simp [sumG]; omega⟩, Int.le_refl _, Int.le_refl _⟩
  | e :: es, old, sh, h0, h1, h2, hs, p, hp => by
    obtain ⟨a1, a2, a3, a4, a5⟩ := sound1_cons hs
    have hg : sumG (e :: es) = growE e + sumG es := by simp [sumG]
    have hge : growE e = (e.x.length : Int) - (e.t - e.f) := rfl
    have ih := kept_in (n := n) (es := es) (old := e.t) (sh := sh + growE e) (by omega) a3 (by omega) a5
    have hlast : ∃ q, q ∈ keptL n e.t (sh + growE e) es := by
      cases es with
      | nil => exact ⟨_, .head _⟩
      | cons x xs => exact ⟨_, .head _⟩
    obtain ⟨q, hq⟩ := hlast
    obtain ⟨hq1, hq2, hq3⟩ := ih q hq
    have b1 := hq1.nt; have b2 := hq1.s0
    rw [keptL] at hp
    rcases List.mem_cons.1 hp with rfl | hp
    · exact ⟨⟨h0, h2, by show 0 ≤ e.f - old; omega, by show old + (e.f - old) ≤ n; omega, by show old + sh + (e.f - old) ≤ n + sh + sumG (e :: es); omega⟩, Int.le_refl _, Int.le_refl _⟩
    · obtain ⟨c1, c2, c3⟩ := ih p hp
      exact ⟨⟨c1.o0, c1.n0, c1.s0, c1.ot, by have := c1.nt; omega⟩, by omega, by omega⟩
theorem kept_pw {n : Int} : ∀ {es : List Ed} {old sh : Int}, 0 ≤ old → old ≤ n → 0 ≤ old + sh → sound1 n old es = 0 → (keptL n old sh es).Pairwise Before
  | [], old, sh, _, _, _, _ => by rw [keptL]; exact List.pairwise_singleton _ _
  | e :: es, old, sh, h0, h1, h2, hs => by
    obtain ⟨a1, a2, a3, a4, a5⟩ := sound1_cons hs
    have hge : growE e = (e.x.length : Int) - (e.t - e.f) := rfl
    rw [keptL, List.pairwise_cons]
    refine ⟨fun q hq => ?_, kept_pw (by omega) a3 (by omega) a5⟩
    obtain ⟨_, c2, c3⟩ := kept_in (n := n) (es := es) (old := e.t) (sh := sh + growE e) (by omega) a3 (by omega) a5 q hq
    exact ⟨by show old + (e.f - old) ≤ q.o; omega, by show old + sh + (e.f - old) ≤ q.n; omega⟩
theorem pw_tri {α : Type} {R : α → α → Prop} : ∀ {l : List α}, l.Pairwise R → ∀ x, x ∈ l → ∀ y, y ∈ l → x = y ∨ R x y ∨ R y x
  | [], _, x, hx, _, _ => absurd hx (by simp)
  | a :: l, h, x, hx, y, hy => by
    rw [List.pairwise_cons] at h
    rcases List.mem_cons.1 hx with ex | hx' <;> rcases List.mem_cons.1 hy with ey | hy'
    · exact .inl (ex.trans ey.symm)
    · subst ex; exact .inr (.inl (h.1 y hy'))
    · subst ey; exact .inr (.inr (h.1 x hx'))
    · exact pw_tri h.2 x hx' y hy'
theorem pick2_some {p q r : Pa} (h : pick2 p q = some r) : max p.n q.o < min (p.n + p.s) (q.o + q.s) ∧ r = ⟨p.o + max p.n q.o - p.n, q.n + max p.n q.o - q.o, min (p.n + p.s) (q.o + q.s) - max p.n q.o⟩ := by
  unfold pick2 at h
  split at h
  · rename_i hlt; exact ⟨hlt, (Option.some.inj h).symm⟩
  · cases h
theorem bothIn_mem {qs : List Pa} {p r : Pa} (h : r ∈ bothIn qs p) : ∃ q, q ∈ qs ∧ pick2 p q = some r := List.mem_filterMap.1 h
theorem both_in {n m k : Int} {ps qs : List Pa} (hp : ∀ p, p ∈ ps → PaIn n m p) (hq : ∀ q, q ∈ qs → PaIn m k q) {r : Pa} (h : r ∈ bothL ps qs) : PaIn n k r ∧ 0 < r.s := by
  obtain ⟨p, h1, h2⟩ := List.mem_flatMap.1 h
  obtain ⟨q, h3, h4⟩ := bothIn_mem h2
  obtain ⟨h5, rfl⟩ := pick2_some h4
  have a := hp p h1; have b := hq q h3
  have a1 := a.o0; have a2 := a.ot; have b1 := b.n0; have b2 := b.nt
  refine ⟨⟨?_, ?_, ?_, ?_, ?_⟩, ?_⟩ <;> simp only <;> omega
theorem both_pw {ps qs : List Pa} (hp : ps.Pairwise Before) (hq : qs.Pairwise Before) : (bothL ps qs).Pairwise Before := by
  unfold bothL
  rw [List.pairwise_flatMap]
  refine ⟨fun p _ => ?_, ?_⟩
  · unfold bothIn
    rw [List.pairwise_filterMap]
    refine hq.imp fun {q q'} hb r hr r' hr' => ?_
    obtain ⟨h1, rfl⟩ := pick2_some hr
    obtain ⟨h2, rfl⟩ := pick2_some hr'
    have h3 := hb.1; have h4 := hb.2
    constructor <;> simp only <;> omega
  · refine hp.imp_of_mem fun {p p'} _ _ hb r hr r' hr' => ?_
    obtain ⟨q, hqm, h1⟩ := bothIn_mem hr
    obtain ⟨q', hqm', h2⟩ := bothIn_mem hr'
    obtain ⟨h1, rfl⟩ := pick2_some h1
    obtain ⟨h2, rfl⟩ := pick2_some h2
    have h3 := hb.1; have h4 := hb.2
    rcases pw_tri hq q hqm q' hqm' with rfl | h | h
    · constructor <;> simp only <;> omega
    · have h5 := h.1; have h6 := h.2
      constructor <;> simp only <;> omega
    · have h5 := h.1; have h6 := h.2
      constructor <;> simp only <;> omega
/-! ### The gaps between what is kept -/
def cutI (u : List UInt8) (a b : Int) : List UInt8 := (u.take b.toNat).drop a.toNat
def gapStep (u : List UInt8) (st : List Ed × Int × Int) (p : Pa) : List Ed × Int × Int := (st.1 ++ [⟨st.2.1, p.o, cutI u st.2.2 p.n⟩], p.o + p.s, p.n + p.s)
def gapSt (u : List UInt8) (ps : List Pa) : List Ed × Int × Int := ps.foldl (gapStep u) ([], 0, 0)
theorem gapSt_snoc (u : List UInt8) (ps : List Pa) (p : Pa) : gapSt u (ps ++ [p]) = gapStep u (gapSt u ps) p := by simp [gapSt]
def EdIn (n : Int) (e : Ed) : Prop := 0 ≤ e.f ∧ e.f ≤ e.t ∧ e.t ≤ n
structure GapOk (n m : Int) (st : List Ed × Int × Int) : Prop where
  len : (st.1.length : Int) ≤ st.2.2
  txs : (txs st.1 : Int) ≤ st.2.2
  all : ∀ e, e ∈ st.1 → EdIn n e
  o0 : 0 ≤ st.2.1
  o1 : st.2.1 ≤ n
  n0 : 0 ≤ st.2.2
  n1 : st.2.2 ≤ m
theorem txs_snoc (es : List Ed) (e : Ed) : txs (es ++ [e]) = txs es + e.x.length := by simp [txs]
theorem cutI_len {u : List UInt8} {a b : Int} (h0 : 0 ≤ a) (h1 : a ≤ b) (h2 : b ≤ u.length) : ((cutI u a b).length : Int) = b - a := by
  unfold cutI
  rw [List.length_drop, List.length_take]; omega
theorem gap_ok {u : List UInt8} {n : Int} (hn : 0 ≤ n) : ∀ {ps : List Pa}, (∀ p, p ∈ ps → PaIn n u.length p ∧ 0 < p.s) → ps.Pairwise Before → GapOk n u.length (gapSt u ps) ∧ (∀ q, (∀ p, p ∈ ps → Before p q) → 0 ≤ q.o → 0 ≤ q.n → (gapSt u ps).2.1 ≤ q.o ∧ (gapSt u ps).2.2 ≤ q.n) := by
  intro ps
  induction ps using snoc_ind with
  | h0 => exact fun _ _ => ⟨⟨Int.le_refl _, Int.le_refl _, fun e he => absurd he (by simp [gapSt]), Int.le_refl _, hn, Int.le_refl _, by simp [gapSt]⟩, fun q _ h1 h2 => ⟨h1, h2⟩⟩
  | h1 ps x ih =>
    intro hin hpw
    rw [List.pairwise_append] at hpw
    obtain ⟨h1, h2⟩ := ih (fun p hp => hin p (by simp [hp])) hpw.1
    obtain ⟨hx, hxs⟩ := hin x (by simp)
    obtain ⟨h3, h4⟩ := h2 x (fun p hp => hpw.2.2 p hp x (by simp)) hx.o0 hx.n0
    rw [gapSt_snoc]
    have a1 := hx.ot; have a2 := hx.nt; have a3 := h1.n0; have a4 := h1.len; have a5 := h1.txs; have a6 := h1.o0; have a7 := hx.s0; have a8 := hx.o0; have a9 := hx.n0
    have hc := cutI_len (u := u) (a := (gapSt u ps).2.2) (b := x.n) a3 h4 (by omega)
    refine ⟨⟨?_, ?_, ?_, ?_, ?_, ?_, ?_⟩, ?_⟩
    · show (((gapSt u ps).1 ++ [_]).length : Int) ≤ x.n + x.s
      rw [List.length_append, List.length_singleton]; omega
    · show (txs ((gapSt u ps).1 ++ [_]) : Int) ≤ x.n + x.s
      rw [txs_snoc]
      show ((txs (gapSt u ps).1 + (cutI u (gapSt u ps).2.2 x.n).length : Nat) : Int) ≤ _
      omega
    · exact mem_snoc_all h1.all ⟨a6, h3, by show x.o ≤ n; omega⟩
    · show 0 ≤ x.o + x.s; omega
    · show x.o + x.s ≤ n; omega
    · show 0 ≤ x.n + x.s; omega
    · show x.n + x.s ≤ (u.length : Int); omega
    · intro q hq _ _
      exact hq x (by simp)
/-! ### The normal form -/
def joinStep (l : List Ed) (x : Ed) : List Ed := match l.getLast? with
  | some y => if y.t = x.f then l.dropLast ++ [⟨y.f, x.t, y.x ++ x.x⟩] else l ++ [x]
  | none => [x]
def joinL (es : List Ed) : List Ed := es.foldl joinStep []
theorem joinL_snoc (es : List Ed) (x : Ed) : joinL (es ++ [x]) = joinStep (joinL es) x := by simp [joinL]
def normE (s : List UInt8) (es : List Ed) : List Ed := (joinL es).filter fun x => !decide (x.x = cutI s x.f x.t)
theorem joinStep_new {l : List Ed} {x : Ed} (h : ∀ y, l.getLast? = some y → y.t ≠ x.f) : joinStep l x = l ++ [x] := by
  unfold joinStep
  cases hl : l.getLast? with
  | none => rw [List.getLast?_eq_none_iff.1 hl]; rfl
  | some y => simp only; rw [if_neg (h y hl)]
theorem last_of {l : List Ed} (h : 0 < l.length) : l.getLast? = some (l[l.length - 1]'(by omega)) := by
  rw [List.getLast?_eq_getElem?, List.getElem?_eq_getElem (by omega)]
theorem joinStep_old {l : List Ed} {x : Ed} (h : 0 < l.length) (e : (l[l.length - 1]'(by omega)).t = x.f) : joinStep l x = l.set (l.length - 1) ⟨(l[l.length - 1]'(by omega)).f, x.t, (l[l.length - 1]'(by omega)).x ++ x.x⟩ := by
  unfold joinStep
  rw [last_of h]
  simp only
  rw [if_pos e, List.set_eq_take_append_cons_drop, if_pos (by omega), List.dropLast_eq_take, List.drop_of_length_le (by omega)]
theorem joinStep_ok {n : Int} {l : List Ed} {x : Ed} (hl : ∀ e, e ∈ l → EdIn n e) (hx : EdIn n x) : (∀ e, e ∈ joinStep l x → EdIn n e) ∧ txs (joinStep l x) = txs l + x.x.length ∧ (joinStep l x).length ≤ l.length + 1 := by
  unfold joinStep
  cases hq : l.getLast? with
  | none =>
    rw [List.getLast?_eq_none_iff.1 hq]
    exact ⟨fun e he => by rw [List.mem_singleton.1 he]; exact hx, by simp [txs], by simp⟩
  | some y =>
    simp only
    split
    · rename_i e
      have hd : l = l.dropLast ++ [y] := by
        have hne : l ≠ [] := by intro e0; subst e0; cases hq
        rw [List.getLast?_eq_some_getLast hne] at hq
        have := List.dropLast_concat_getLast hne
        rw [Option.some.inj hq] at this
        exact this.symm
      have hy := hl y (by rw [hd]; simp)
      refine ⟨?_, ?_, ?_⟩
      · refine mem_snoc_all (fun e he => hl e (List.dropLast_subset _ he)) ?_
        obtain ⟨b1, b2, b3⟩ := hy; obtain ⟨c1, c2, c3⟩ := hx
        exact ⟨b1, by show y.f ≤ x.t; omega, c3⟩
      · rw [txs_snoc]
        conv => rhs; rw [hd, txs_snoc]
        show txs l.dropLast + (y.x ++ x.x).length = _
        rw [List.length_append]; omega
      · rw [List.length_append, List.length_dropLast, List.length_singleton]; omega
    · exact ⟨mem_snoc_all hl hx, by rw [txs_snoc], by simp⟩
theorem joinL_ok {n : Int} : ∀ {es : List Ed}, (∀ e, e ∈ es → EdIn n e) → (∀ e, e ∈ joinL es → EdIn n e) ∧ txs (joinL es) = txs es ∧ (joinL es).length ≤ es.length := by
  intro es
  induction es using snoc_ind with
  | h0 => exact fun _ => ⟨fun e he => absurd he (by simp [joinL]), rfl, Nat.le_refl _⟩
  | h1 es x ih =>
    intro h
    obtain ⟨h1, h2, h3⟩ := ih fun e he => h e (by simp [he])
    rw [joinL_snoc]
    obtain ⟨g1, g2, g3⟩ := joinStep_ok h1 (h x (by simp))
    exact ⟨g1, by rw [g2, h2, txs_snoc], by rw [List.length_append, List.length_singleton]; omega⟩
theorem txs_mem {es : List Ed} {e : Ed} (h : e ∈ es) : e.x.length ≤ txs es := by
  induction es with
  | nil => exact absurd h (by simp)
  | cons a l ih =>
    have e1 : txs (a :: l) = a.x.length + txs l := by simp [txs]
    rw [e1]
    rcases List.mem_cons.1 h with rfl | h
    · omega
    · have := ih h; omega
/-! ### Two lists in one -/
def composeL (s t u : List UInt8) (a b : List Ed) : List Ed :=
  let g := gapSt u (bothL (keptL s.length 0 0 a) (keptL t.length 0 0 b))
  normE s (g.1 ++ [⟨g.2.1, s.length, u.drop g.2.2.toNat⟩])
def composeE (s : List UInt8) (a b : List Ed) : List Ed × Int :=
  if soundE s.length a = 0 then
    if soundE (applyGo s 0 a).length b = 0 then
      if 64 < (composeL s (applyGo s 0 a) (applyGo (applyGo s 0 a) 0 b) a b).length then ([], 4) else (composeL s (applyGo s 0 a) (applyGo (applyGo s 0 a) 0 b) a b, 0)
    else ([], soundE (applyGo s 0 a).length b)
  else ([], soundE s.length a)
theorem apply_sum {s : List UInt8} : ∀ {es : List Ed} {q : Nat}, q ≤ s.length → sound1 s.length q es = 0 → ((applyGo s q es).length : Int) = s.length - q + sumG es ∧ txs es ≤ (applyGo s q es).length
  | [], q, hq, _ => by simp [applyGo, sumG, txs]; omega
  | e :: es, q, hq, hs => by
    obtain ⟨h1, h2, h3, h4, h5⟩ := sound1_cons hs
    have ht : ((e.t.toNat : Nat) : Int) = e.t := Int.toNat_of_nonneg (by omega)
    obtain ⟨i1, i2⟩ := apply_sum (s := s) (es := es) (q := e.t.toNat) (by omega) (by rw [ht]; exact h5)
    have hg : sumG (e :: es) = growE e + sumG es := by simp [sumG]
    have hge : growE e = (e.x.length : Int) - (e.t - e.f) := rfl
    have e1 : txs (e :: es) = e.x.length + txs es := by simp [txs]
    have hl : ((s.take e.f.toNat).drop q).length = e.f.toNat - q := by rw [List.length_drop, List.length_take]; omega
    rw [applyGo, hg, e1]
    simp only [List.length_append, hl]
    constructor
    · push_cast
      omega
    · omega
/-- all that the walk asks of two lists that are sound -/
theorem both_ok {s t u : List UInt8} {a b : List Ed} (h1 : sound1 s.length 0 a = 0) (ht : t = applyGo s 0 a) (h2 : sound1 t.length 0 b = 0) (hu : u = applyGo t 0 b) :
    (∀ p, p ∈ keptL s.length 0 0 a → PaIn s.length t.length p) ∧ (∀ p, p ∈ keptL t.length 0 0 b → PaIn t.length u.length p) ∧
    (∀ p, p ∈ bothL (keptL s.length 0 0 a) (keptL t.length 0 0 b) → PaIn s.length u.length p ∧ 0 < p.s) ∧ (bothL (keptL s.length 0 0 a) (keptL t.length 0 0 b)).Pairwise Before := by
  have e1 := (apply_sum (s := s) (q := 0) (Nat.zero_le _) h1).1
  have e2 := (apply_sum (s := t) (q := 0) (Nat.zero_le _) h2).1
  rw [← ht] at e1; rw [← hu] at e2
  have k1 : ∀ p, p ∈ keptL s.length 0 0 a → PaIn s.length t.length p := fun p hp => by
    have := (kept_in (Int.le_refl 0) (by omega) (by omega) h1 p hp).1
    rwa [show (s.length : Int) + 0 + sumG a = t.length from by omega] at this
  have k2 : ∀ p, p ∈ keptL t.length 0 0 b → PaIn t.length u.length p := fun p hp => by
    have := (kept_in (Int.le_refl 0) (by omega) (by omega) h2 p hp).1
    rwa [show (t.length : Int) + 0 + sumG b = u.length from by omega] at this
  exact ⟨k1, k2, fun p hp => both_in k1 k2 hp, both_pw (kept_pw (Int.le_refl 0) (by omega) (by omega) h1) (kept_pw (Int.le_refl 0) (by omega) (by omega) h2)⟩
theorem both_split {ps qs : List Pa} {pre suf : List Pa} {x : Pa} {pre2 suf2 : List Pa} {q r : Pa} (hx : ps = pre ++ x :: suf) (hq : qs = pre2 ++ q :: suf2) (h : pick2 x q = some r) : ∃ rest, bothL ps qs = (bothL pre qs ++ bothIn pre2 x) ++ r :: rest := by
  refine ⟨bothIn suf2 x ++ bothL suf qs, ?_⟩
  subst hx
  have e1 : bothIn qs x = bothIn pre2 x ++ (r :: bothIn suf2 x) := by
    subst hq
    unfold bothIn
    rw [List.filterMap_append, List.filterMap_cons, h]
  unfold bothL
  rw [List.flatMap_append, List.flatMap_cons, e1]
  simp only [List.append_assoc, List.cons_append]
theorem keptL_cons {size old sh : Int} {es : List Ed} {k : Nat} (h : k < es.length) : keptL size old sh (es.drop k) = ⟨old, old + sh, es[k].f - old⟩ :: keptL size es[k].t (sh + growE es[k]) (es.drop (k + 1)) := by
  rw [List.drop_eq_getElem_cons h, keptL]
theorem txs_drop {es : List Ed} {k : Nat} (h : k < es.length) : txs (es.drop k) = es[k].x.length + txs (es.drop (k + 1)) := by
  rw [List.drop_eq_getElem_cons h]; unfold txs; rw [List.map_cons, List.sum_cons]
theorem gap_at {u : List UInt8} {n : Int} {L pre suf : List Pa} {x : Pa} (hn : 0 ≤ n) (hall : ∀ p, p ∈ L → PaIn n u.length p ∧ 0 < p.s) (hpw : L.Pairwise Before) (hx : L = pre ++ x :: suf) :
    GapOk n u.length (gapSt u pre) ∧ (gapSt u pre).2.1 ≤ x.o ∧ (gapSt u pre).2.2 ≤ x.n ∧ PaIn n u.length x := by
  subst hx
  rw [List.pairwise_append] at hpw
  obtain ⟨h1, h2⟩ := gap_ok (u := u) hn (fun p hp => hall p (by simp [hp])) hpw.1
  obtain ⟨hx, _⟩ := hall x (by simp)
  obtain ⟨h3, h4⟩ := h2 x (fun p hp => hpw.2.2 p hp x (by simp)) hx.o0 hx.n0
  exact ⟨h1, h3, h4, hx⟩
theorem applyE_err (s : List UInt8) (a : List Ed) : (applyE s a).2 = soundE s.length a := by
  unfold applyE; split
  · rename_i h; exact h.symm
  · rfl
theorem applyE_ok {s : List UInt8} {a : List Ed} (h : soundE s.length a = 0) : (applyE s a).1 = applyGo s 0 a := by unfold applyE; rw [if_pos h]
theorem sound_in {n : Int} : ∀ {es : List Ed} {q : Int}, 0 ≤ q → sound1 n q es = 0 → ∀ e, e ∈ es → EdIn n e
  | [], _, _, _, e, he => absurd he (by simp)
  | a :: es, q, hq, hs, e, he => by
    obtain ⟨h1, h2, h3, h4, h5⟩ := sound1_cons hs
    rcases List.mem_cons.1 he with rfl | he
    · exact ⟨h1, h2, h3⟩
    · exact sound_in (by omega) h5 e he
def normR (s : List UInt8) (es : List Ed) : List Ed × Int := if soundE s.length es = 0 then (normE s es, 0) else ([], soundE s.length es)
/-- a variable that holds edits of one's own -/
def EdB (T e b : Nat) (l : List Ed) : HP := Ex (ι := Option Addr × Nat) fun i => [Box b T [.slice i.1 l.length i.2], OwnSl e 3 i.1 l.length i.2 (edC l)]
theorem St.edbNew {w : World} {M : List HP} {F : List Fact} {T e b : Nat} (h : St w (Box b T [.slice none 0 0] :: M) F) : St w (EdB T e b [] :: M) F :=
  St.exClose (none, 0) ((OwnSl.nil_new e 3 h).swap)
theorem txs_take (es : List Ed) (k : Nat) : txs (es.take k) ≤ txs es := by
  have h : txs es = txs (es.take k) + txs (es.drop k) := by
    unfold txs; rw [← List.sum_append, ← List.map_append, List.take_append_drop]
  omega
structure KpX where
  k : Nat
  o : Int
  h : Int
  pre : List Pa
end Go.GL

namespace Go.GL
set_option linter.unusedVariables false
section
variable {P : Program} {r : Option Nat} {N : Nat} {ops : Array Oper} {rest : List Oper} {Q : Exit → Act → World → Prop} {E : Env} {ds : List Deferred} {M : List HP} {F : List Fact}
/-- A LOOP OVER A FUNCTION whose body never leaves it; the body sees the loop's own record. -/
theorem TR.rangeFuncR {α : Type} {g : Operand} {ps : List Nat} {assign body : Code} {gf : FuncId} {cap : List Value} {enc : α → List Value → Prop} {xs : List α} {κ : Type}
    (hg : evalO E g = some (.func (.func gf) #[] cap.toArray)) (hcall : ∀ args w, (callFunc gf args).run P w = .ok (.enter gf args) w) (hps : ∀ p, p ∈ ps → Nat.ble (p + 1) N = true) (hlen : ∀ x args, enc x args → args.length = ps.length)
    (hit : IterC P gf cap enc xs F) (J : List α → List HP) (Mr : List HP) (hJ : ∀ w, St w M F → St w (J [] ++ Mr) F)
    (E1 : List α → α → List Value → κ → Env) (M1 : List α → α → List Value → κ → List HP)
    (hassign : ∀ l pre x suf args, xs = pre ++ x :: suf → enc x args → ∀ Mi G, (∀ φ, φ ∈ F → φ ∈ G) →
      TR P (some l) N assign (Exit.then (fun a w => ∃ i, Sat N (E1 pre x args i) [] a ∧ St w (M1 pre x args i ++ Mi) G) (fun _ _ _ => False)) (envAt ps args E) [] (J pre ++ Mi) G)
    (hbody : ∀ l rc pre x suf args i, xs = pre ++ x :: suf → enc x args → ∀ Mi G, (∀ φ, φ ∈ F → φ ∈ G) →
      TR P (some l) N body (RoundQ (J (pre ++ [x]) ++ (Pts l (.loop rc) :: Mi)) G) (E1 pre x args i) [] (M1 pre x args i ++ (Pts l (.loop rc) :: Mi)) G)
    (k : ∀ D, NX N .normal Q E ({ target := .collected D, args := #[] } :: ds) (Pts D (.deferred (some [])) :: (J xs ++ Mr)) F) :
    TR P none N (.rangeFunc g ps.toArray assign body) Q E ds M F := by
  intro a w ha hw
  refine wpIn_rangeFunc fun fn _ => ?_
  obtain ⟨rec, hrec⟩ : ∃ rec : LoopState → Option Code → Loop, rec = fun st pe => { state := st, pending := pe, fn, tmps := a.tmps, params := ps.toArray, assign, body, defers := w.heap.size } := ⟨_, rfl⟩
  obtain ⟨W1, hW1⟩ : ∃ W1, W1 = (w.alloc (.deferred (some []))).alloc (.loop (rec .ready none)) := ⟨_, rfl⟩
  have h1 : St W1 (Pts (w.heap.size + 1) (.loop (rec .ready none)) :: Pts w.heap.size (.deferred (some [])) :: (J [] ++ Mr)) F := by
    have := ((hJ w hw).alloc (.deferred (some []))).alloc (.loop (rec .ready none))
    rw [World.size_alloc] at this
    rw [hW1]
    exact this
  refine ⟨w.heap.size + 1, [{ target := .collected w.heap.size, args := #[] }], W1, { target := .fn (.func gf) cap.toArray, args := #[.func (.yield (w.heap.size + 1)) #[] #[]] }, W1, gf,
    (.func (.yield (w.heap.size + 1)) #[] #[] :: cap).toArray, W1, ?_, ?_, fun _ _ => trivial, ?_, fun h => by simp at h, ?_⟩
  · rw [hW1, hrec]; exact run_enterLoop_outer _ _ _ _ _
  · have e0 := ha.eval hg
    have e1 : a.eval (.const (.func (.yield (w.heap.size + 1)) #[] #[])) = .func (.yield (w.heap.size + 1)) #[] #[] := rfl
    simp only [resolve, e0, Deferred.ofValue]
    simp [e1]
  · simp [invoke, hcall]
  · have hJ' := hit (w.heap.size + 1) (fun pre => Pts (w.heap.size + 1) (.loop (rec .ready none)) :: J pre) ?_ (Pts w.heap.size (.deferred (some [])) :: Mr) F (fun _ h => h)
    · have hp : ∀ (r : HP) (L : List HP), (r :: Pts w.heap.size (.deferred (some [])) :: (L ++ Mr)).Perm ((r :: L) ++ (Pts w.heap.size (.deferred (some [])) :: Mr)) := fun r L => (List.perm_middle.symm).cons r
      obtain ⟨hF, hc⟩ := hJ' _ (h1.perm (hp _ _))
      refine ⟨hF, fun cs hr => ?_⟩
      obtain ⟨e, w', fr, ⟨_, he, hst⟩, rest'⟩ := hc cs hr
      subst he
      refine ⟨_, w', fr, ?_, rest'⟩
      have hst' := hst.perm (hp _ _).symm
      have hl := hst'.heap (i := 0) rfl
      refine ⟨none, _, by have := run_endLoop (P := P) hl (by rw [hrec]; simp); rw [hrec] at this; exact this, ?_⟩
      exact k w.heap.size _ _ (ha.ends _) ((hst'.putObj (i := 0) rfl).tail) |> fun h => by rw [ha.defers]; exact h
    · intro pre x suf args hx he Mi G hG W hW
      have hW : St W (Pts (w.heap.size + 1) (.loop (rec .ready none)) :: (J pre ++ Mi)) G := hW
      have hl := hW.heap (i := 0) rfl
      have hy := run_yield (P := P) (args := args.toArray) hl (by rw [hrec]; simp [hlen x args he])
      rw [hrec] at hy
      refine ⟨fn, _, assign, body, hy, roundIn_of_wpIn (F := Wd none) trivial ?_⟩
      have hS : Sat N (envAt ps args E) [] ⟨(ps.zip args).foldl (fun t (p, v) => t.setIfInBounds p v) a.tmps, []⟩ := Sat.params ps args (ha.ends []) hps
      have hz : ((ps.toArray.zip args.toArray).foldl (fun tmps (t, a) => tmps.setIfInBounds t a) a.tmps) = (ps.zip args).foldl (fun t (p, v) => t.setIfInBounds p v) a.tmps := by simp
      have hper : ∀ (r : HP) (L L' : List HP), (r :: (L ++ L')).Perm (L ++ (r :: L')) := fun r L L' => List.perm_middle.symm
      refine wpIn_mono (hassign (w.heap.size + 1) pre x suf args hx he (Pts (w.heap.size + 1) (.loop (rec .ready none)) :: Mi) G hG _ W (by simp only; rw [hz]; exact hS) (hW.perm (hper _ _ _))) ?_
      intro e a1 w1 hq
      cases e with
      | normal =>
        obtain ⟨i, hs1, hw1⟩ := hq
        have hw1' := hw1.perm (hper _ _ _).symm
        have hl1 := hw1'.heap (i := 0) rfl
        refine ⟨_, run_beginRound hl1 (by rw [hrec]), ?_⟩
        have hw2 := (hw1'.putObj (o' := .loop { rec .ready none with state := .busy }) (i := 0) rfl)
        refine wpIn_mono (hbody (w.heap.size + 1) { rec .ready none with state := .busy } pre x suf args i hx he Mi G hG a1 _ hs1 (hw2.perm (hper _ _ _))) ?_
        intro e a3 w3 hq3
        cases e with
        | normal =>
          have hw3 : St w3 (J (pre ++ [x]) ++ (Pts (w.heap.size + 1) (.loop { rec .ready none with state := .busy }) :: Mi)) G := hq3
          have hw3' := hw3.perm (hper _ _ _).symm
          have hl3 := hw3'.heap (i := 0) rfl
          refine ⟨_, _, run_endRound none hl3, (), rfl, ?_⟩
          have := hw3'.putObj (o' := .loop { rec .ready none with state := .ready }) (i := 0) rfl
          rw [hrec] at this ⊢
          exact this
        | _ => exact hq3.elim
      | _ => exact hq.elim
/-- A LOOP OVER A FUNCTION within a round of another such loop; its body never leaves it. -/
theorem TR.rangeFuncN {α : Type} {g : Operand} {ps : List Nat} {assign body : Code} {gf : FuncId} {cap : List Value} {enc : α → List Value → Prop} {xs : List α} {κ : Type}
    (hg : evalO E g = some (.func (.func gf) #[] cap.toArray)) (hcall : ∀ args w, (callFunc gf args).run P w = .ok (.enter gf args) w) (hps : ∀ p, p ∈ ps → Nat.ble (p + 1) N = true) (hlen : ∀ x args, enc x args → args.length = ps.length)
    (hit : IterC P gf cap enc xs F) {l0 : Nat} {r0 : Loop} (i0 : Nat) (hi0 : M[i0]? = some (Pts l0 (.loop r0))) (J : List α → List HP) (Mr : List HP) (hJ : ∀ w, St w M F → St w (J [] ++ Mr) F)
    (E1 : List α → α → List Value → κ → Env) (M1 : List α → α → List Value → κ → List HP)
    (hassign : ∀ l pre x suf args, xs = pre ++ x :: suf → enc x args → ∀ Mi G, (∀ φ, φ ∈ F → φ ∈ G) →
      TR P (some l) N assign (Exit.then (fun a w => ∃ i, Sat N (E1 pre x args i) [] a ∧ St w (M1 pre x args i ++ Mi) G) (fun _ _ _ => False)) (envAt ps args E) [] (J pre ++ Mi) G)
    (hbody : ∀ l pre x suf args i, xs = pre ++ x :: suf → enc x args → ∀ Mi G, (∀ φ, φ ∈ F → φ ∈ G) →
      TR P (some l) N body (RoundQ (J (pre ++ [x]) ++ Mi) G) (E1 pre x args i) [] (M1 pre x args i ++ Mi) G)
    (k : NX N .normal Q E ds (J xs ++ Mr) F) :
    TR P (some l0) N (.rangeFunc g ps.toArray assign body) Q E ds M F := by
  intro a w ha hw
  refine wpIn_rangeFunc fun fn _ => ?_
  obtain ⟨rec, hrec⟩ : ∃ rec : LoopState → Option Code → Loop, rec = fun st pe => { state := st, pending := pe, fn, tmps := a.tmps, params := ps.toArray, assign, body, defers := r0.defers } := ⟨_, rfl⟩
  obtain ⟨W1, hW1⟩ : ∃ W1, W1 = w.alloc (.loop (rec .ready none)) := ⟨_, rfl⟩
  have h1 : St W1 (Pts w.heap.size (.loop (rec .ready none)) :: (J [] ++ Mr)) F := by
    have := (hJ w hw).alloc (.loop (rec .ready none))
    rw [hW1]
    exact this
  refine ⟨w.heap.size, [], W1, { target := .fn (.func gf) cap.toArray, args := #[.func (.yield w.heap.size) #[] #[]] }, W1, gf,
    (.func (.yield w.heap.size) #[] #[] :: cap).toArray, W1, ?_, ?_, fun _ _ => trivial, ?_, fun h => by simp at h, ?_⟩
  · rw [hW1, hrec]; exact run_enterLoop_inner (hw.heap hi0) _ _ _ _ _
  · have e0 := ha.eval hg
    have e1 : a.eval (.const (.func (.yield w.heap.size) #[] #[])) = .func (.yield w.heap.size) #[] #[] := rfl
    simp only [resolve, e0, Deferred.ofValue]
    simp [e1]
  · simp [invoke, hcall]
  · have hJ' := hit w.heap.size (fun pre => Pts w.heap.size (.loop (rec .ready none)) :: J pre) ?_ Mr F (fun _ h => h)
    · obtain ⟨hF, hc⟩ := hJ' _ h1
      refine ⟨hF, fun cs hr => ?_⟩
      obtain ⟨e, w', fr, ⟨_, he, hst⟩, rest'⟩ := hc cs hr
      subst he
      refine ⟨_, w', fr, ?_, rest'⟩
      have hst' : St w' (Pts w.heap.size (.loop (rec .ready none)) :: (J xs ++ Mr)) F := hst
      have hl := hst'.heap (i := 0) rfl
      refine ⟨none, _, by have := run_endLoop (P := P) hl (by rw [hrec]; simp); rw [hrec] at this; exact this, ?_⟩
      exact k _ _ (by exact ha) ((hst'.putObj (i := 0) rfl).tail)
    · intro pre x suf args hx he Mi G hG W hW
      have hW : St W (Pts w.heap.size (.loop (rec .ready none)) :: (J pre ++ Mi)) G := hW
      have hl := hW.heap (i := 0) rfl
      have hy := run_yield (P := P) (args := args.toArray) hl (by rw [hrec]; simp [hlen x args he])
      rw [hrec] at hy
      refine ⟨fn, _, assign, body, hy, roundIn_of_wpIn (F := Wd none) trivial ?_⟩
      have hS : Sat N (envAt ps args E) [] ⟨(ps.zip args).foldl (fun t (p, v) => t.setIfInBounds p v) a.tmps, []⟩ := Sat.params ps args (ha.ends []) hps
      have hz : ((ps.toArray.zip args.toArray).foldl (fun tmps (t, a) => tmps.setIfInBounds t a) a.tmps) = (ps.zip args).foldl (fun t (p, v) => t.setIfInBounds p v) a.tmps := by simp
      have hper : ∀ (r : HP) (L L' : List HP), (r :: (L ++ L')).Perm (L ++ (r :: L')) := fun r L L' => List.perm_middle.symm
      refine wpIn_mono (hassign w.heap.size pre x suf args hx he (Pts w.heap.size (.loop (rec .ready none)) :: Mi) G hG _ W (by simp only; rw [hz]; exact hS) (hW.perm (hper _ _ _))) ?_
      intro e a1 w1 hq
      cases e with
      | normal =>
        obtain ⟨i, hs1, hw1⟩ := hq
        have hw1' := hw1.perm (hper _ _ _).symm
        have hl1 := hw1'.heap (i := 0) rfl
        refine ⟨_, run_beginRound hl1 (by rw [hrec]), ?_⟩
        have hw2 := (hw1'.putObj (o' := .loop { rec .ready none with state := .busy }) (i := 0) rfl)
        refine wpIn_mono (hbody w.heap.size pre x suf args i hx he (Pts w.heap.size (.loop { rec .ready none with state := .busy }) :: Mi) G hG a1 _ hs1 (hw2.perm (hper _ _ _))) ?_
        intro e a3 w3 hq3
        cases e with
        | normal =>
          have hw3 : St w3 (J (pre ++ [x]) ++ (Pts w.heap.size (.loop { rec .ready none with state := .busy }) :: Mi)) G := hq3
          have hw3' := hw3.perm (hper _ _ _).symm
          have hl3 := hw3'.heap (i := 0) rfl
          refine ⟨_, _, run_endRound none hl3, (), rfl, ?_⟩
          have := hw3'.putObj (o' := .loop { rec .ready none with state := .ready }) (i := 0) rfl
          rw [hrec] at this ⊢
          exact this
        | _ => exact hq3.elim
      | _ => exact hq.elim
end
/-- a function without results that holds such a loop ends -/
theorem NX.endM {P : Program} {N : Nat} {E : Env} {M : List HP} {F : List Fact} {fn : Func} {D : Nat} {ι : Type} {val : ι → Value} {M' : ι → List HP} {F' : ι → List Fact} (j : Nat) (i : ι) (hr : fn.results = #[]) (hD : M[j]? = some (Pts D (.deferred (some [])))) (hv : .tuple #[] = val i) (hS : ∀ w, St w (M.eraseIdx j) F → St w (M' i) (F' i)) :
    NX N .normal (bodyPostM (Wd none) 0 P fn (Post val M' F')) E [{ target := .collected D, args := #[] }] M F := fun a w ha hw => by
  show LeavesInM _ _ _ _ _ _ a.defers .returning w
  rw [ha.defers]
  have hd := hw.heap hD
  refine ⟨by simp, .inl ⟨D, _, rfl, run_takeDeferred hd, .tuple #[], results_none hr _ _ _, i, by rw [hv], hS _ ?_⟩⟩
  have h1 := hw.putObj (o' := .deferred none) hD
  have h2 : (M.set j (Pts D (.deferred none)))[j]? = some (Pts D (.deferred none)) := by
    rw [List.getElem?_set_self (List.getElem?_eq_some_iff.1 hD).1]
  have h3 := h1.drop j h2
  rwa [List.eraseIdx_set_eq] at h3
/-- two results, no mark laid so far, in a function that holds such a loop -/
theorem NX.ret2K {P : Program} {N : Nat} {E : Env} {M : List HP} {F : List Fact} {fn : Func} {t u : Nat} {v v' : Value} {ι : Type} {val : ι → Value} {M' : ι → List HP} {F' : ι → List Fact} (i : ι) (hr : fn.results = #[.tmp t, .tmp u]) (ht : look E t = some v) (hu : look E u = some v') (hv : .tuple #[v, v'] = val i) (hS : ∀ w, St w M F → St w (M' i) (F' i)) :
    NX N .ret (bodyPostM (Wd none) 0 P fn (Post val M' F')) E [] M F := fun a w ha hw => by
  show LeavesInM _ _ _ _ _ _ a.defers .returning w
  rw [ha.defers]
  exact ⟨.tuple #[v, v'], by rw [results_tmp2 hr]; simp [ha.get t v ht, ha.get u v' hu], i, by rw [hv], hS w hw⟩
theorem pm3 {a b r : HP} {L Mi : List HP} : (a :: b :: (L ++ (r :: Mi))).Perm (r :: a :: b :: (L ++ Mi)) :=
  (((List.perm_middle (l₁ := L) (a := r) (l₂ := Mi)).cons b).cons a).trans (((List.Perm.swap r b _).cons a).trans (List.Perm.swap r a _))
theorem pm2 {b r : HP} {L Mi : List HP} : (r :: b :: (L ++ Mi)).Perm (b :: (L ++ (r :: Mi))) :=
  (List.Perm.swap b r _).trans ((List.perm_middle (l₁ := L) (a := r) (l₂ := Mi)).symm.cons b)
end Go.GL

namespace Go.Proofs.Ytkdeopioelocnaa
open Go.GL
set_option linter.unusedVariables false
theorem qc_bv121_0_1_2 (x0 : Int) (x1 : Int) (x2 : Int) : BuildV Try.prog 121 [(0, .int .i64 x0), (1, .int .i64 x1), (2, .int .i64 x2)] (.agg #[.int .i64 x0, .int .i64 x1, .int .i64 x2]) := fun w => by kernel_rfl
theorem qc_ta78 : tyAgg Try.prog 78 3 = true := by kernel_rfl
theorem qc_tf78_0 : fieldOff Try.prog 78 0 0 = true := by kernel_rfl
theorem qc_tf78_1 : fieldOff Try.prog 78 1 1 = true := by kernel_rfl
theorem qc_tf78_2 : fieldOff Try.prog 78 2 2 = true := by kernel_rfl
theorem qc_tl26 : tySlice Try.prog 26 78 = true := by kernel_rfl
theorem qc_ts26 : tyScalar Try.prog 26 = true := by kernel_rfl
theorem qc_ts3 : tyScalar Try.prog 3 = true := by kernel_rfl
theorem qc_ts9 : tyScalar Try.prog 9 = true := by kernel_rfl
theorem qc_tstr9 : tyStr Try.prog 9 = true := by kernel_rfl
theorem qc_tz78 : tySize Try.prog 78 3 = true := by kernel_rfl
theorem growth_spec {e : Ed} {n : Int} {M : List HP} {F : List Fact} (he : EdIn n e) (hn : n ≤ 4611686018427387904) (hx : e.x.length ≤ 4611686018427387904) : Ctr Try.prog 103 [.agg (e.c).toArray] M F Unit (fun _ => I (growE e)) (fun _ => M) (fun _ => F) := by
  obtain ⟨he1, he2, he3⟩ := he
  refine Ctr.body Try.func103 rfl rfl ?_
  refine TR.seq ?_
  refine TR.region ?_
  refine RL.boxA rfl rfl rfl (fun b1 => ?_)
  refine RL.assign rfl rfl rfl ?_
  refine RL.nil ?_
  refine NX.seq ?_
  refine TR.seq ?_
  refine TR.region ?_
  refine RL.fieldAddr rfl qc_tf78_2 rfl rfl ?_
  refine RL.load1 0 rfl qc_ts9 rfl rfl rfl rfl ?_
  refine RL.lenStr rfl qc_tstr9 rfl rfl ?_
  refine RL.fieldAddr rfl qc_tf78_1 rfl rfl ?_
  refine RL.load1 0 rfl qc_ts3 rfl rfl rfl rfl ?_
  refine RL.fieldAddr rfl qc_tf78_0 rfl rfl ?_
  refine RL.load1 0 rfl qc_ts3 rfl rfl rfl rfl ?_
  refine RL.bin rfl rfl rfl (BinV.sub _ rfl (by omega) (by omega)) rfl ?_
  refine RL.bin rfl rfl rfl (BinV.sub _ rfl (by omega) (by omega)) rfl ?_
  refine RL.assign rfl rfl rfl ?_
  refine RL.nil ?_
  refine NX.seq ?_
  refine TR.ret ?_
  exact NX.ret1 () rfl rfl rfl (fun w hw => (hw.to 1 [] 0 [] rfl))

theorem kept_spec {size : Int} {oa : Option Addr} {n c : Nat} {M : List HP} {F : List Fact} : Ctr Try.prog 93 [I size, .slice oa n c] M F (Nat × Nat) (fun z => .func (.func 102) #[] #[.pointer (some ⟨z.1, 0, none⟩), .pointer (some ⟨z.2, 0, none⟩)]) (fun _ => M) (fun z => CellsF z.1 0 [.slice oa n c] :: CellsF z.2 0 [I size] :: F) := by
  refine Ctr.body Try.func93 rfl rfl ?_
  refine TR.seq ?_
  refine TR.region ?_
  refine RL.box1 rfl rfl rfl rfl (fun b1 => ?_)
  refine RL.box1 rfl rfl rfl rfl (fun b2 => ?_)
  refine RL.assign rfl rfl rfl ?_
  refine RL.nil ?_
  refine NX.seq ?_
  refine TR.seq ?_
  refine TR.region ?_
  refine RL.makeFunc rfl rfl rfl rfl ?_
  refine RL.assign rfl rfl rfl ?_
  refine RL.nil ?_
  refine NX.seq ?_
  refine TR.ret ?_
  refine NX.ret1 (b2, b1) rfl rfl rfl (fun w hw => ?_)
  exact (St.keep (show St w (Box b2 26 [.slice oa n c] :: Box b1 3 [I size] :: M) F from hw)).keep.facts (fun φ h => by rcases List.mem_cons.1 h with e | h; exact e ▸ .tail _ (.head _); rcases List.mem_cons.1 h with e | h; exact e ▸ .head _; exact .tail _ (.tail _ h))

theorem kept_iter {es : List Ed} {oa : Option Addr} {c be bs : Nat} {size : Int} {F : List Fact} (ha : ArrF oa (edC es) ∈ F) (hbe : CellsF be 0 [.slice oa es.length c] ∈ F) (hbs : CellsF bs 0 [I size] ∈ F) (hsz : 0 ≤ size) (hsm : size ≤ 1099511627776) (htm : txs es ≤ 1099511627776) (hel : es.length ≤ 4611686018427387904) (hsd : sound1 size 0 es = 0) : IterC Try.prog 102 [.pointer (some ⟨be, 0, none⟩), .pointer (some ⟨bs, 0, none⟩)] partEnc (keptL size 0 0 es) F := by
  intro l J hY Mi G hG
  refine Ctr.body Try.func102 rfl rfl ?_
  refine TR.seq ?_
  refine TR.region ?_
  refine RL.assign rfl rfl rfl ?_
  refine RL.assign rfl rfl rfl ?_
  refine RL.nil ?_
  refine NX.seq ?_
  refine TR.seq ?_
  refine TR.seq ?_
  refine TR.region ?_
  refine RL.loadF rfl rfl (fun w K hF => run_loadCell1 (j := 0) (hF (CellsF be 0 [.slice oa es.length c]) (hG _ hbe)) qc_ts26 rfl) rfl ?_
  refine RL.lenSlice rfl qc_tl26 rfl rfl ?_
  refine RL.move rfl rfl rfl ?_
  refine RL.nil ?_
  refine NX.seq ?_
  refine TR.block ?_
  refine TR.loopP (ι := KpX) (fun x => x.k ≤ es.length ∧ keptL size 0 0 es = x.pre ++ keptL size x.o x.h (es.drop x.k) ∧ 0 ≤ x.o ∧ x.o ≤ size ∧ 0 ≤ x.o + x.h ∧ x.h + (txs (es.drop x.k) : Nat) ≤ (txs es : Nat) ∧ sound1 size x.o (es.drop x.k) = 0) (fun x => [(0, .func (.yield l) #[] #[]), (2, .pointer (some ⟨bs, 0, none⟩)), (4, I x.o), (5, I x.h), (8, .slice oa es.length c), (9, I es.length), (10, I x.k)]) (fun x => (J x.pre ++ Mi)) (fun x => G) (fun x => es.length - x.k) ⟨0, 0, 0, []⟩ ⟨Nat.zero_le _, rfl, Int.le_refl _, hsz, Int.le_refl _, by show (0 : Int) + _ ≤ _; rw [List.drop_zero]; omega, hsd⟩ ⟨rfl, rfl, rfl, rfl, rfl, rfl, rfl, trivial⟩ (fun w hw => (hw.to 0 [] 0 [] rfl)) (fun x hx => ?_)
  refine TR.seq ?_
  refine TR.region ?_
  refine RL.bin rfl rfl rfl BinV.lss rfl ?_
  refine RL.nil ?_
  refine NX.seq ?_
  refine TR.seq ?_
  refine TR.cond rfl (fun h1 => ?_) (fun h1 => ?_)
  · skip
    have hk1 : x.k < es.length := by have := of_decide_eq_true h1; omega
    obtain ⟨hx0, hx1, hx2, hx3, hx4, hx5, hx6⟩ := hx
    have hx : x.k ≤ es.length ∧ keptL size 0 0 es = x.pre ++ keptL size x.o x.h (es.drop x.k) ∧ True := ⟨hx0, hx1, trivial⟩
    have hs1 := hx6
    rw [List.drop_eq_getElem_cons hk1] at hs1
    obtain ⟨h1, h2, h3, h4, h5⟩ := sound1_cons hs1
    have htd := txs_drop hk1
    have hge : growE es[x.k] = (es[x.k].x.length : Int) - (es[x.k].t - es[x.k].f) := rfl
    refine TR.openP (open_arr (oa := oa) (xs := edC es) (hG _ ha) (fun e => by have h8 := edC_length es; rw [e] at h8; simp at h8; omega)) (fun pq hpq => ?_)
    refine TR.skip ?_
    refine NX.seq ?_
    refine TR.seq ?_
    refine TR.block ?_
    refine TR.seq ?_
    refine TR.region ?_
    refine RL.indexAddr rfl qc_tl26 qc_tz78 (congrArg (fun a => some (Value.slice a _ _)) hpq) rfl (by omega) (by omega) rfl ?_
    refine RL.loadF rfl rfl (fun w K hF => run_ed (hF (CellsF pq.1 pq.2 (edC es)) (.head _)) qc_ta78 hk1) rfl ?_
    refine RL.allocA rfl (Try.zeroValue78) rfl (fun b2 => ?_)
    refine RL.storeA 0 rfl rfl rfl rfl qc_tz78 rfl rfl ?_
    refine RL.nil ?_
    refine NX.seq ?_
    refine TR.seq ?_
    refine TR.seq ?_
    refine TR.region ?_
    refine RL.move rfl rfl rfl ?_
    refine RL.move rfl rfl rfl ?_
    refine RL.move rfl rfl rfl ?_
    refine RL.move rfl rfl rfl ?_
    refine RL.bin rfl rfl rfl (BinV.add _ rfl (by omega) (by omega)) rfl ?_
    refine RL.fieldAddr rfl qc_tf78_0 rfl rfl ?_
    refine RL.load1 0 rfl qc_ts3 rfl rfl rfl rfl ?_
    refine RL.move rfl rfl rfl ?_
    refine RL.bin rfl rfl rfl (BinV.sub _ rfl (by omega) (by omega)) rfl ?_
    refine RL.build rfl rfl (qc_bv121_0_1_2 _ _ _) rfl ?_
    refine RL.callYield rfl rfl rfl rfl (YSpec.frame [_] (hY x.pre (⟨x.o, x.o + x.h, es[x.k].f - x.o⟩ : Pa) (keptL size es[x.k].t (x.h + growE es[x.k]) (es.drop (x.k + 1))) _ (by rw [hx.2.1, keptL_cons hk1]) rfl ([_] ++ Mi) _ (fun φ h => .tail _ (hG φ h)))) ?_
    refine RL.not rfl rfl rfl ?_
    refine RL.nil ?_
    refine NX.seq ?_
    refine TR.condF rfl ?_
    refine TR.skip ?_
    refine NX.seq ?_
    refine TR.seq ?_
    refine TR.region ?_
    refine RL.fieldAddr rfl qc_tf78_1 rfl rfl ?_
    refine RL.load1 0 rfl qc_ts3 rfl rfl rfl rfl ?_
    refine RL.assign rfl rfl rfl ?_
    refine RL.nil ?_
    refine NX.seq ?_
    refine TR.region ?_
    refine RL.move rfl rfl rfl ?_
    refine RL.loadA 0 rfl rfl rfl qc_ta78 rfl ?_
    refine RL.call rfl rfl Try.call103 rfl (growth_spec (e := es[x.k]) (n := size) ⟨h1, h2, h3⟩ (by omega) (by omega)) (fun _ => ?_)
    refine RL.bin rfl rfl rfl (BinV.add _ rfl (by omega) (by omega)) rfl ?_
    refine RL.assign rfl rfl rfl ?_
    refine RL.nil ?_
    refine NX.off ?_
    refine NX.seq ?_
    refine TR.region ?_
    refine RL.bin rfl rfl rfl (BinV.add _ rfl (by omega) (by omega)) rfl ?_
    refine RL.move rfl rfl rfl ?_
    refine RL.nil ?_
    refine NX.roundP ⟨x.k + 1, es[x.k].t, x.h + growE es[x.k], x.pre ++ [(⟨x.o, x.o + x.h, es[x.k].f - x.o⟩ : Pa)]⟩ ⟨hk1, by show keptL size 0 0 es = (x.pre ++ [_]) ++ keptL size es[x.k].t (x.h + growE es[x.k]) (es.drop (x.k + 1)); rw [hx1, keptL_cons hk1, List.append_assoc]; rfl, by show 0 ≤ es[x.k].t; omega, h3, by show 0 ≤ es[x.k].t + (x.h + growE es[x.k]); omega, by show x.h + growE es[x.k] + ((txs (es.drop (x.k + 1)) : Nat) : Int) ≤ _; omega, h5⟩ (by show _ - (x.k + 1) < _ - x.k; omega) ⟨rfl, rfl, rfl, rfl, rfl, rfl, rfl, trivial⟩ (fun w hw => (hw.to 1 [] 1 [] rfl))
  · skip
    have hk2 : x.k = es.length := by have := of_decide_eq_false h1; have := hx.1; omega
    obtain ⟨hx0, hx1, hx2, hx3, hx4, hx5, hx6⟩ := hx
    have hx : x.k ≤ es.length ∧ keptL size 0 0 es = x.pre ++ keptL size x.o x.h (es.drop x.k) ∧ True := ⟨hx0, hx1, trivial⟩
    refine TR.exit ?_
    refine NX.exitThen ?_
    refine NX.exitThen ?_
    refine NX.exitHere ?_
    refine NX.seq ?_
    refine TR.region ?_
    refine RL.move rfl rfl rfl ?_
    refine RL.move rfl rfl rfl ?_
    refine RL.move rfl rfl rfl ?_
    refine RL.move rfl rfl rfl ?_
    refine RL.bin rfl rfl rfl (BinV.add _ rfl (by omega) (by omega)) rfl ?_
    refine RL.loadF rfl rfl (fun w K hF => run_loadCell1 (j := 0) (hF (CellsF bs 0 [I size]) (hG _ hbs)) qc_ts3 rfl) rfl ?_
    refine RL.move rfl rfl rfl ?_
    refine RL.bin rfl rfl rfl (BinV.sub _ rfl (by omega) (by omega)) rfl ?_
    refine RL.build rfl rfl (qc_bv121_0_1_2 _ _ _) rfl ?_
    refine RL.callYield rfl rfl rfl rfl (YSpec.frame [] (hY x.pre (⟨x.o, x.o + x.h, size - x.o⟩ : Pa) [] _ (by rw [hx.2.1, hk2, List.drop_length]; rfl) rfl ([] ++ Mi) _ (fun φ h => hG φ h))) ?_
    refine RL.nil ?_
    refine NX.end0 () rfl rfl (fun w hw => ?_)
    have hfin : x.pre ++ [(⟨x.o, x.o + x.h, size - x.o⟩ : Pa)] = keptL size 0 0 es := by rw [hx1, hk2, List.drop_length]; rfl
    rw [← hfin]
    exact hw

end Go.Proofs.Ytkdeopioelocnaa
