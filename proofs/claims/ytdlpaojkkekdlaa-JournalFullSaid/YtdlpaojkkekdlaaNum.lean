/- The rules of the walk for unsigned numbers, conversions and bytes. No condition; over every program. -/
import Derived.Test.YtdlpaojkkekdlaaBld
import Derived.Laws.BitsAllLaws
import Derived.Laws.BytesArg
import Derived.Lib.ConvBytes
namespace Go.GL
abbrev U (n : Nat) : Value := .int .u64 (n : Int)
abbrev B8 (n : Nat) : Value := .int .u8 (n : Int)
theorem wrap_u64 (n : Nat) : IntKind.u64.wrap (n : Int) = ((n % 18446744073709551616 : Nat) : Int) := by
  simp [IntKind.wrap, IntKind.bits, IntKind.signed]
theorem wrap_u64i (n : Int) : IntKind.u64.wrap n = n % 18446744073709551616 := by
  simp [IntKind.wrap, IntKind.bits, IntKind.signed]
theorem wrap_u8 (n : Nat) : IntKind.u8.wrap (n : Int) = ((n % 256 : Nat) : Int) := by
  simp [IntKind.wrap, IntKind.bits, IntKind.signed]
theorem wrap_u64_id {n : Nat} (h : n < 18446744073709551616) : IntKind.u64.wrap (n : Int) = (n : Int) := by rw [wrap_u64, Nat.mod_eq_of_lt h]
section
variable {P : Program} {t : TypeId} {a b : Nat}
theorem BinV.bitsK {op : BinOp} {k : IntKind} {x y : Int} (ho : op = .and ∨ op = .or ∨ op = .xor ∨ op = .andNot) : BinV P op t (.int k x) (.int k y) (.int k (bits op k x y)) := ⟨fun w => by
  rcases ho with rfl | rfl | rfl | rfl <;> simp [binOp, Op.intBits, bits], fun _ _ _ => eqGuard_int _ _ _⟩
theorem BinV.orU (ha : a < 18446744073709551616) (hb : b < 18446744073709551616) : BinV P .or t (U a) (U b) (U (a ||| b)) := by
  have h := BinV.bitsK (P := P) (t := t) (op := .or) (k := .u64) (x := (a : Int)) (y := (b : Int)) (by simp)
  rwa [u64_or_nat a b ha hb] at h
theorem BinV.xorU (ha : a < 18446744073709551616) (hb : b < 18446744073709551616) : BinV P .xor t (U a) (U b) (U (a ^^^ b)) := by
  have h := BinV.bitsK (P := P) (t := t) (op := .xor) (k := .u64) (x := (a : Int)) (y := (b : Int)) (by simp)
  rwa [u64_xor_nat a b ha hb] at h
theorem BinV.andU (ha : a < 18446744073709551616) (hb : b < 18446744073709551616) : BinV P .and t (U a) (U b) (U (a &&& b)) := by
  have h := BinV.bitsK (P := P) (t := t) (op := .and) (k := .u64) (x := (a : Int)) (y := (b : Int)) (by simp)
  rwa [u64_and_nat a b ha hb] at h
theorem BinV.orB (ha : a < 256) (hb : b < 256) : BinV P .or t (B8 a) (B8 b) (B8 (a ||| b)) := by
  have h := BinV.bitsK (P := P) (t := t) (op := .or) (k := .u8) (x := (a : Int)) (y := (b : Int)) (by simp)
  rwa [u8_or_nat a b ha hb] at h
theorem BinV.xorB (ha : a < 256) (hb : b < 256) : BinV P .xor t (B8 a) (B8 b) (B8 (a ^^^ b)) := by
  have h := BinV.bitsK (P := P) (t := t) (op := .xor) (k := .u8) (x := (a : Int)) (y := (b : Int)) (by simp)
  rwa [u8_xor_nat a b ha hb] at h
theorem BinV.clear7 (ha : a < 256) : BinV P .andNot t (B8 a) (.int .u8 128) (B8 (a % 128)) := by
  have h := BinV.bitsK (P := P) (t := t) (op := .andNot) (k := .u8) (x := (a : Int)) (y := ((128 : Nat) : Int)) (by simp)
  rw [u8_andNot_nat a 128 ha (by omega), show a &&& (255 - 128) = a % 128 from Nat.and_two_pow_sub_one_eq_mod a 7] at h
  exact h
theorem BinV.shl {k yk : IntKind} {x : Int} {s : Nat} (hs : s ≤ k.bits) : BinV P .shl t (.int k x) (.int yk (s : Int)) (.int k (k.wrap (x * 2 ^ s))) := ⟨fun w => by
  have h1 : ¬ ((s : Int) < 0) := by omega
  simp only [binOp, Op.shift, if_neg h1, Int.toNat_natCast, Nat.min_eq_left hs]; rfl, fun _ _ _ => eqGuard_int _ _ _⟩
theorem BinV.shr {k yk : IntKind} {x : Int} {s : Nat} (hs : s ≤ k.bits) : BinV P .shr t (.int k x) (.int yk (s : Int)) (.int k (x.fdiv (2 ^ s))) := ⟨fun w => by
  have h1 : ¬ ((s : Int) < 0) := by omega
  simp only [binOp, Op.shift, if_neg h1, Int.toNat_natCast, Nat.min_eq_left hs]; rfl, fun _ _ _ => eqGuard_int _ _ _⟩
theorem BinV.shlU {yk : IntKind} {s : Nat} (hs : s ≤ 64) : BinV P .shl t (U a) (.int yk (s : Int)) (U (a * 2 ^ s % 18446744073709551616)) := by
  have h := BinV.shl (P := P) (t := t) (k := .u64) (yk := yk) (x := (a : Int)) (s := s) hs
  rw [show ((a : Int) * 2 ^ s) = ((a * 2 ^ s : Nat) : Int) from by push_cast; rfl, wrap_u64] at h
  exact h
theorem BinV.shlB {yk : IntKind} {s : Nat} (hs : s ≤ 8) : BinV P .shl t (B8 a) (.int yk (s : Int)) (B8 (a * 2 ^ s % 256)) := by
  have h := BinV.shl (P := P) (t := t) (k := .u8) (yk := yk) (x := (a : Int)) (s := s) hs
  rw [show ((a : Int) * 2 ^ s) = ((a * 2 ^ s : Nat) : Int) from by push_cast; rfl, wrap_u8] at h
  exact h
theorem BinV.shrU {yk : IntKind} {s : Nat} (hs : s ≤ 64) : BinV P .shr t (U a) (.int yk (s : Int)) (U (a / 2 ^ s)) := by
  have h := BinV.shr (P := P) (t := t) (k := .u64) (yk := yk) (x := (a : Int)) (s := s) hs
  rw [show (a : Int).fdiv (2 ^ s) = ((a / 2 ^ s : Nat) : Int) from by
    rw [Int.fdiv_eq_ediv_of_nonneg _ (by exact_mod_cast Nat.zero_le _)]; push_cast; rfl] at h
  exact h
theorem BinV.addU (h : a + b < 18446744073709551616) : BinV P .add t (U a) (U b) (U (a + b)) := by
  have h1 := BinV.addW (P := P) (t := t) (k := .u64) (x := (a : Int)) (y := (b : Int))
  rw [← Int.natCast_add, wrap_u64_id h] at h1
  exact h1
theorem BinV.addUw : BinV P .add t (U a) (U b) (U ((a + b) % 18446744073709551616)) := by
  have h1 := BinV.addW (P := P) (t := t) (k := .u64) (x := (a : Int)) (y := (b : Int))
  rw [← Int.natCast_add, wrap_u64] at h1
  exact h1
theorem BinV.mulUw : BinV P .mul t (U a) (U b) (U (a * b % 18446744073709551616)) := by
  have h1 := BinV.mulW (P := P) (t := t) (k := .u64) (x := (a : Int)) (y := (b : Int))
  rw [← Int.natCast_mul, wrap_u64] at h1
  exact h1
theorem BinV.mulU (h : a * b < 18446744073709551616) : BinV P .mul t (U a) (U b) (U (a * b)) := by
  have h1 := BinV.mulUw (P := P) (t := t) (a := a) (b := b)
  rwa [Nat.mod_eq_of_lt h] at h1
theorem BinV.remK {k : IntKind} (hb : b ≠ 0) : BinV P .rem t (.int k (a : Int)) (.int k (b : Int)) (.int k ((a % b : Nat) : Int)) := by
  have h1 := BinV.rem (P := P) (t := t) (k := k) (x := (a : Int)) (y := (b : Int)) (by omega)
  rw [show (a : Int).tmod (b : Int) = ((a % b : Nat) : Int) from by rw [Int.tmod_eq_emod_of_nonneg (by omega)]; rfl] at h1
  exact h1
theorem BinV.quoU (ha : a < 18446744073709551616) (hb : b ≠ 0) : BinV P .quo t (U a) (U b) (U (a / b)) := ⟨fun w => by
  have h0 : ¬ ((b : Int) = 0) := by omega
  have e : (a : Int).tdiv (b : Int) = ((a / b : Nat) : Int) := by rw [Int.tdiv_eq_ediv_of_nonneg (by omega)]; rfl
  have hl : a / b < 18446744073709551616 := Nat.lt_of_le_of_lt (Nat.div_le_self a b) ha
  simp only [binOp, Op.intDiv, ne_eq, not_true_eq_false, if_false, if_neg h0, e]
  rw [wrap_u64_id hl]; rfl, fun _ _ _ => eqGuard_int _ _ _⟩
theorem BinV.xorI {k : IntKind} {x y : Int} : BinV P .xor t (.int k x) (.int k y) (.int k (k.wrap ((BitVec.ofInt k.bits x ^^^ BitVec.ofInt k.bits y).toNat : Nat))) := ⟨fun w => by
  simp only [binOp, Op.intBits, ne_eq, not_true_eq_false, if_false]; rfl, fun _ _ _ => eqGuard_int _ _ _⟩
end
theorem xor_ones {a : Nat} (ha : a < 18446744073709551616) : a ^^^ 18446744073709551615 = 18446744073709551615 - a := by
  have h := BitVec.toNat_not (x := BitVec.ofNat 64 a)
  have e : (~~~(BitVec.ofNat 64 a)).toNat = a ^^^ 18446744073709551615 := by
    rw [← BitVec.xor_allOnes]
    rw [BitVec.toNat_xor, BitVec.toNat_ofNat, BitVec.toNat_allOnes, Nat.mod_eq_of_lt ha]
  rw [← e, h, BitVec.toNat_ofNat, Nat.mod_eq_of_lt ha]
/-! ### Conversions -/
def tyInt (P : Program) (t : TypeId) (k : IntKind) : Bool := match P.underlying t with | some (.int k') => k' == k | _ => false
theorem tyInt_is {P : Program} {t : TypeId} {k : IntKind} (h : tyInt P t k = true) : P.underlying t = some (.int k) := by
  unfold tyInt at h
  split at h
  · rename_i k' he; rw [he, eq_of_beq h]
  · cases h
def ConvV (P : Program) (s t : TypeId) (v v' : Value) : Prop := ∀ w, (convert s t v).run P w = .ok v' w
section
variable {P : Program} {s t : TypeId} {k j : IntKind} {n : Int}
theorem ConvV.int (hs : tyInt P s k = true) (ht : tyInt P t j = true) : ConvV P s t (.int k n) (.int j (j.wrap n)) := fun w => by
  simp [convert, run_underlying (tyInt_is hs), run_underlying (tyInt_is ht), Conv.intToInt]
theorem ConvV.to {v v' v'' : Value} (h : ConvV P s t v v') (e : v' = v'') : ConvV P s t v v'' := e ▸ h
theorem ConvV.iu {n : Nat} (hs : tyInt P s .i64 = true) (ht : tyInt P t .u64 = true) (h : n < 18446744073709551616) : ConvV P s t (I (n : Int)) (U n) := (ConvV.int hs ht).to (by rw [wrap_u64_id h])
theorem ConvV.iuz {n : Int} (hs : tyInt P s .i64 = true) (ht : tyInt P t .u64 = true) (h0 : 0 ≤ n) (h : n < 18446744073709551616) : ConvV P s t (I n) (U n.toNat) := (ConvV.int hs ht).to (by
  show Value.int .u64 _ = Value.int .u64 ((n.toNat : Nat) : Int)
  rw [wrap_u64i, Int.toNat_of_nonneg h0, Int.emod_eq_of_lt h0 h])
theorem ConvV.ub {n : Nat} (hs : tyInt P s .u64 = true) (ht : tyInt P t .u8 = true) : ConvV P s t (U n) (B8 (n % 256)) := (ConvV.int hs ht).to (by rw [wrap_u8])
theorem ConvV.bu {n : Nat} (hs : tyInt P s .u8 = true) (ht : tyInt P t .u64 = true) (h : n < 18446744073709551616) : ConvV P s t (B8 n) (U n) := (ConvV.int hs ht).to (by rw [wrap_u64_id h])
theorem ConvV.uiS {n : Nat} (hs : tyInt P s .u64 = true) (ht : tyInt P t .i64 = true) (h : n < 9223372036854775808) : ConvV P s t (U n) (I (n : Int)) := (ConvV.int hs ht).to (by rw [wrap64_id (by omega) (by omega)])
end
section
variable {P : Program} {r : Option Nat} {N : Nat} {ops : Array Oper} {rest : List Oper} {Q : Exit → Act → World → Prop} {E : Env} {ds : List Deferred} {M : List HP} {F : List Fact}
variable {d : Nat} {ty : TypeId} {pos : String} {aft : Array Edge} {gd : Option (Nat × Bool)}
theorem PV.conv {s t : TypeId} {x : Operand} {v v' : Value} (hx : evalO E x = some v) (h : ConvV P s t v v') : PV P E M F ⟨some d, .convert s t x, ty, pos, aft, gd⟩ v' := ⟨rfl, fun ρ hρ w _ => by
  have h1 := h w
  simp [execOp, hρ _ _ hx, h1]⟩
theorem RL.conv {s t : TypeId} {x : Operand} {v v' : Value} (hg : wantedG ops E gd = some true) (hx : evalO E x = some v) (h : ConvV P s t v v') (hN : Nat.ble (d + 1) N = true) (k : RL P r N ops rest Q ((d, v') :: E) ds M F) : RL P r N ops (⟨some d, .convert s t x, ty, pos, aft, gd⟩ :: rest) Q E ds M F :=
  RL.val rfl hg hN (fun ρ hρ w _ => by
    have h1 := h w
    simp [execOp, hρ _ _ hx, h1]) k
/-! ### What can be read -/
def Rd (M : List HP) (F : List Fact) (oa : Option Addr) (xs : List Value) : Prop := ∀ w, St w M F → ArrAt w [] oa xs
theorem rd_fact {oa : Option Addr} {xs : List Value} (h : ArrF oa xs ∈ F) : Rd M F oa xs := fun w hw => by
  obtain ⟨K, hK⟩ := hw.fact h
  exact ArrAt.clear hK
theorem rd_own {oa : Option Addr} {e size n cap i : Nat} {xs : List Value} (hi : M[i]? = some (OwnSl e size oa n cap xs)) : Rd M F oa xs := fun w hw => by
  obtain ⟨K, ⟨K1, K2, _, h, _⟩, _⟩ := hw.front hi
  exact OwnSl.cells h
theorem Rd.mono {M' : List HP} {F' : List Fact} {oa : Option Addr} {xs : List Value} (h : Rd M F oa xs) (hs : ∀ w, St w M' F' → St w M F) : Rd M' F' oa xs := fun w hw => h w (hs w hw)
theorem src_rd {oa : Option Addr} {xs : List Value} {size m c : Nat} (h : Rd M F oa xs) (hs : xs.length = m * size) (h1 : xs.all Value.oneCell' = true) : ∀ w, St w M F → Src P w size m (.slice oa m c) xs := fun w hw => Src.slice (h w hw) hs h1
def tyByte (P : Program) (t : TypeId) : Bool := match P.underlying t with | some (.slice e) => tyInt P e .u8 | _ => false
theorem run_bytes_str {w : World} {s t : TypeId} {oa : Option Addr} {c : Nat} {l : List UInt8} (hs : tyByte P s = true) (ht : tyStr P t = true) (h : ArrAt w [] oa (bytesV l)) : (convert s t (.slice oa l.length c)).run P w = .ok (S l) w := by
  unfold tyByte at hs
  split at hs
  · rename_i e he
    have hb := tyInt_is hs
    cases oa with
    | none =>
      have hl : l = [] := by
        rcases h with h | ⟨b, off, e, _⟩
        · cases l with
          | nil => rfl
          | cons x l => simp [bytesV] at h
        · cases e
      subst hl
      exact run_convert_bytes_nil (P := P) w s e he hb 0 c t (tyStr_underlying ht)
    | some a =>
      rcases h with h | ⟨b, off, e2, hc⟩
      · have hl : l = [] := by
          cases l with
          | nil => rfl
          | cons x l => simp [bytesV] at h
        subst hl
        have := run_convert_bytes_string (P := P) w s t e (some a) 0 c he hb (tyStr_underlying ht)
        rw [show ([] : List UInt8).length = 0 from rfl, this]
        have h2 := run_bytesToString (P := P) w a 0 c [] (by have := run_loadCells_list (P := P) w a [] (by simp); simpa using this)
        rw [h2]
        rfl
      · cases e2
        have := run_convert_bytes_arg (P := P) w s e he hb b off l.length c (l.map fun u => (u.toNat : Int)) (by simp) (fun i hi => by
          have := hc.2.2 i (.int .u8 ((l[i]).toNat : Int)) (by simp [bytesV, hi])
          rw [this]
          simp [List.getD, hi]) t (tyStr_underlying ht)
        rw [this]
        congr 3
        simp only [strOfNums, List.map_map]
        congr 2
        conv => rhs; rw [← List.map_id l]
        exact List.map_congr_left fun u _ => by simp
  · cases hs
theorem PV.convBS {s t : TypeId} {x : Operand} {oa : Option Addr} {n c : Nat} {l : List UInt8} (hs : tyByte P s = true) (ht : tyStr P t = true) (hx : evalO E x = some (.slice oa n c)) (hn : n = l.length) (h : Rd M F oa (bytesV l)) : PV P E M F ⟨some d, .convert s t x, ty, pos, aft, gd⟩ (S l) := ⟨rfl, fun ρ hρ w hw => by
  subst hn
  have h1 := run_bytes_str (P := P) (s := s) (t := t) (c := c) hs ht (h w hw)
  simp [execOp, hρ _ _ hx, h1]⟩
theorem RL.convBS {s t : TypeId} {x : Operand} {oa : Option Addr} {n c : Nat} {l : List UInt8} (hg : wantedG ops E gd = some true) (hs : tyByte P s = true) (ht : tyStr P t = true) (hx : evalO E x = some (.slice oa n c)) (hn : n = l.length) (h : Rd M F oa (bytesV l)) (hN : Nat.ble (d + 1) N = true) (k : RL P r N ops rest Q ((d, S l) :: E) ds M F) : RL P r N ops (⟨some d, .convert s t x, ty, pos, aft, gd⟩ :: rest) Q E ds M F :=
  RL.val rfl hg hN (fun ρ hρ w hw => by
    subst hn
    have h1 := run_bytes_str (P := P) (s := s) (t := t) (c := c) hs ht (h w hw)
    simp [execOp, hρ _ _ hx, h1]) k
theorem RL.convSB {s t : TypeId} {x : Operand} {l : List UInt8} (hg : wantedG ops E gd = some true) (hs : tyStr P s = true) (ht : tyByte P t = true) (hx : evalO E x = some (S l)) (hN : Nat.ble (d + 1) N = true) (k : ∀ z : {z : Option Addr × Nat // l.length ≤ z.2}, RL P r N ops rest Q ((d, .slice z.1.1 l.length z.1.2) :: E) ds M (ArrF z.1.1 (bytesV l) :: F)) : RL P r N ops (⟨some d, .convert s t x, ty, pos, aft, gd⟩ :: rest) Q E ds M F :=
  RL.gen (ι := {z : Option Addr × Nat // l.length ≤ z.2}) (val := fun z => .slice z.1.1 l.length z.1.2) (M' := fun _ => M) (F' := fun z => ArrF z.1.1 (bytesV l) :: F) rfl hg hN (fun ρ hρ w hw => by
    unfold tyByte at ht
    split at ht
    · rename_i e he
      have hb := tyInt_is ht
      have h1 := Lib.run_convert_string_bytes (P := P) w s t e ⟨l.toArray⟩ (tyStr_underlying hs) he hb
      rw [S_size] at h1
      refine ⟨⟨(some ⟨w.heap.size, 0, none⟩, grownCap w l.length 0 e), grownCap_ge w _ _ e⟩, Lib.bytesWorld w e ⟨l.toArray⟩, by simp [execOp, hρ _ _ hx, h1], ?_⟩
      have hg2 : St (Lib.bytesWorld w e ⟨l.toArray⟩) M F := hw.grow rfl rfl rfl (by rw [Lib.bytesWorld_size]; omega) fun b hb => Lib.bytesWorld_at_old w e _ b hb
      obtain ⟨K, ho, hn, hf⟩ := hw
      have hg3 : ∀ b, b < w.heap.size → (Lib.bytesWorld w e ⟨l.toArray⟩).heap[b]? = w.heap[b]? := fun b hb => Lib.bytesWorld_at_old w e _ b hb
      refine ⟨K, ho.loc fun b hb => hg3 b (ho.lt b hb), hn, fun φ hφ => ?_⟩
      rcases List.mem_cons.1 hφ with e1 | hφ
      · subst e1
        refine .inr ⟨w.heap.size, 0, rfl, fun hk => ?_, by rw [Lib.bytesWorld_size]; omega, fun j v hv => ?_⟩
        · have := ho.lt _ hk; omega
        · have hj : j < l.length := by have := (List.getElem?_eq_some_iff.1 hv).1; simpa [bytesV] using this
          rw [Nat.zero_add, Lib.bytesWorld_cell w e _ j (by rw [S_size]; exact hj)]
          simp only [bytesV, List.getElem?_map] at hv
          rw [List.getElem?_eq_getElem hj] at hv
          simp only [Option.map_some, Option.some.injEq] at hv
          rw [← hv]
          simp [List.getD, hj]
      · exact φ.mono (hf φ hφ) ⟨rfl, rfl, rfl, by rw [Lib.bytesWorld_size]; omega, fun b hb _ => hg3 b hb, fun c hc => .inl hc⟩
    · cases ht) k
end
end Go.GL
