/- A canonical binary encoding, a hash, frames of records: plain functions and laws. No condition; no program. -/
import Derived.Test.YtdlpaojkkekdlaaNum
namespace Go.GL
set_option linter.unusedVariables false
/-! ### Varints -/
def encU (n : Nat) : List UInt8 := if n < 128 then [UInt8.ofNat n] else UInt8.ofNat (128 + n % 128) :: encU (n / 128)
termination_by n
decreasing_by omega
theorem encU_small {n : Nat} (h : n < 128) : encU n = [UInt8.ofNat n] := by rw [encU, if_pos h]
theorem encU_big {n : Nat} (h : ¬ n < 128) : encU n = UInt8.ofNat (128 + n % 128) :: encU (n / 128) := by rw [encU, if_neg h]
theorem encU_pos (n : Nat) : 0 < (encU n).length := by
  by_cases h : n < 128
  · rw [encU_small h]; simp
  · rw [encU_big h]; simp
theorem encU_len {k : Nat} : ∀ {n : Nat}, n < 128 ^ (k + 1) → (encU n).length ≤ k + 1 := by
  induction k with
  | zero => intro n h; rw [encU_small (by simpa using h)]; simp
  | succ k ih =>
    intro n h
    by_cases hs : n < 128
    · rw [encU_small hs]; simp
    · rw [encU_big hs, List.length_cons]
      have := ih (n := n / 128) (by rw [Nat.div_lt_iff_lt_mul (by omega)]; rw [Nat.pow_succ] at h; exact h)
      omega
theorem encU_len10 {n : Nat} (h : n < 18446744073709551616) : (encU n).length ≤ 10 := encU_len (k := 9) (by
  have : (128 : Nat) ^ (9 + 1) = 1180591620717411303424 := by decide
  omega)
theorem u8_ofNat {n : Nat} (h : n < 256) : (UInt8.ofNat n).toNat = n := by simp; omega
theorem or128 {c : Nat} (h : c < 256) : c ||| 128 = 128 + c % 128 := by
  have : ∀ c : Fin 256, c.1 ||| 128 = 128 + c.1 % 128 := by decide +kernel
  exact this ⟨c, h⟩
/-- the byte of a number that is followed by another one -/
theorem more_byte {n : Nat} : B8 (n % 256 ||| 128) = .int .u8 ((UInt8.ofNat (128 + n % 128)).toNat : Int) := by
  rw [or128 (by omega), u8_ofNat (by omega)]
  congr 2; omega
theorem last_byte {n : Nat} (h : n < 128) : B8 (n % 256) = .int .u8 ((UInt8.ofNat n).toNat : Int) := by
  rw [u8_ofNat (by omega), Nat.mod_eq_of_lt (by omega)]
def zz (n : Int) : Nat := if n < 0 then (2 * (-(n + 1)) + 1).toNat else (2 * n).toNat
def uz (z : Nat) : Int := if z % 2 = 1 then -((z / 2 : Nat) : Int) - 1 else ((z / 2 : Nat) : Int)
theorem uz_zz (n : Int) : uz (zz n) = n := by
  unfold uz zz
  split
  · rw [if_pos (by omega)]; omega
  · rw [if_neg (by omega)]; omega
theorem zz_lt {n : Int} (h0 : -9223372036854775808 ≤ n) (h1 : n ≤ 9223372036854775807) : zz n < 18446744073709551616 := by
  unfold zz; split <;> omega
def decU : Nat → Nat → List UInt8 → Nat × List UInt8 × Int
  | _, _, [] => (0, [], 3)
  | i, n, c :: b => if (i = 9 ∧ 1 < c.toNat) ∨ (0 < i ∧ c.toNat = 0) then (0, b, 2) else if c.toNat < 128 then (n + c.toNat % 128 * 2 ^ (7 * i), b, 0) else decU (i + 1) (n + c.toNat % 128 * 2 ^ (7 * i)) b
theorem decU_enc (rest : List UInt8) : ∀ (m i n : Nat), (0 < i → 0 < m) → m * 2 ^ (7 * i) < 18446744073709551616 → decU i n (encU m ++ rest) = (n + m * 2 ^ (7 * i), rest, 0) := by
  intro m
  induction m using Nat.strongRecOn with
  | _ m ih =>
    intro i n hi hm
    have h9 : i = 9 → m ≤ 1 := by
      rintro rfl
      have e : (2 : Nat) ^ (7 * 9) = 9223372036854775808 := by decide
      rw [e] at hm
      omega
    by_cases hs : m < 128
    · rw [encU_small hs, List.singleton_append, decU, u8_ofNat (by omega), if_neg (by omega), if_pos hs, Nat.mod_eq_of_lt hs]
    · rw [encU_big hs, List.cons_append, decU, u8_ofNat (by omega), if_neg (by omega), if_neg (by omega)]
      have e : (128 + m % 128) % 128 = m % 128 := by omega
      have e2 : m / 128 * 2 ^ (7 * (i + 1)) + m % 128 * 2 ^ (7 * i) = m * 2 ^ (7 * i) := by
        rw [show 7 * (i + 1) = 7 * i + 7 from by omega, Nat.pow_add, show (2 : Nat) ^ 7 = 128 from rfl, Nat.mul_comm (2 ^ (7 * i)) 128, ← Nat.mul_assoc, ← Nat.add_mul]
        congr 1; omega
      rw [ih (m / 128) (by omega) (i + 1) _ (by omega) (by omega), e]
      congr 1
      omega
theorem decU_err {i n : Nat} {b : List UInt8} (h : (decU i n b).2.2 ≠ 0) : (decU i n b).1 = 0 := by
  induction b generalizing i n with
  | nil => rfl
  | cons c b ih =>
    rw [decU] at h ⊢
    split
    · rfl
    · rename_i h1
      rw [if_neg h1] at h
      split
      · rename_i h2; rw [if_pos h2] at h; exact absurd rfl h
      · rename_i h2; rw [if_neg h2] at h; exact ih h
theorem decU_suf {i n : Nat} {b : List UInt8} : ∃ p, b = p ++ (decU i n b).2.1 := by
  induction b generalizing i n with
  | nil => exact ⟨[], rfl⟩
  | cons c b ih =>
    rw [decU]
    split
    · exact ⟨[c], rfl⟩
    · split
      · exact ⟨[c], rfl⟩
      · obtain ⟨p, hp⟩ := ih (i := i + 1) (n := n + c.toNat % 128 * 2 ^ (7 * i))
        exact ⟨c :: p, by rw [List.cons_append, ← hp]⟩
theorem decU_lt : ∀ {i n : Nat} {b : List UInt8}, i ≤ 9 → n < 2 ^ (7 * i) → (decU i n b).1 < 18446744073709551616
  | i, n, [], _, _ => by rw [decU]; decide
  | i, n, c :: b, hi, hn => by
    rw [decU]
    have hc := c.toNat_lt
    have hm : c.toNat % 128 < 128 := Nat.mod_lt _ (by omega)
    have hstep : n + c.toNat % 128 * 2 ^ (7 * i) < 2 ^ (7 * (i + 1)) := by
      rw [show 7 * (i + 1) = 7 * i + 7 from by omega, Nat.pow_add, show (2 : Nat) ^ 7 = 128 from rfl]
      have : c.toNat % 128 * 2 ^ (7 * i) ≤ 127 * 2 ^ (7 * i) := Nat.mul_le_mul_right _ (by omega)
      omega
    by_cases h1 : (i = 9 ∧ 1 < c.toNat) ∨ (0 < i ∧ c.toNat = 0)
    · rw [if_pos h1]; exact (show (0 : Nat) < 18446744073709551616 by omega)
    · rw [if_neg h1]
      by_cases h2 : c.toNat < 128
      · rw [if_pos h2]
        show n + c.toNat % 128 * 2 ^ (7 * i) < _
        by_cases h9 : i = 9
        · subst h9
          have e : (2 : Nat) ^ (7 * 9) = 9223372036854775808 := by decide
          rw [e] at hn ⊢
          have : c.toNat % 128 ≤ 1 := by omega
          have : c.toNat % 128 * 9223372036854775808 ≤ 1 * 9223372036854775808 := Nat.mul_le_mul_right _ this
          omega
        · refine Nat.lt_of_lt_of_le hstep ?_
          have : (2 : Nat) ^ (7 * (i + 1)) ≤ 2 ^ 64 := Nat.pow_le_pow_right (by omega) (by omega)
          exact this
      · rw [if_neg h2]
        exact decU_lt (by omega) hstep
/-! ### Readers -/
def rdU (l : List UInt8) (e : Int) : Nat × List UInt8 × Int := if e = 0 then decU 0 0 l else (0, l, e)
def rdRaw (l : List UInt8) (e : Int) : List UInt8 × List UInt8 × Int :=
  if (rdU l e).2.2 = 0 then (if (rdU l e).1 ≤ (rdU l e).2.1.length then ((rdU l e).2.1.take (rdU l e).1, (rdU l e).2.1.drop (rdU l e).1, 0) else ([], (rdU l e).2.1, 3)) else ([], (rdU l e).2.1, (rdU l e).2.2)
theorem rdU_enc {n : Nat} (h : n < 18446744073709551616) (rest : List UInt8) : rdU (encU n ++ rest) 0 = (n, rest, 0) := by
  unfold rdU
  rw [if_pos rfl, decU_enc rest n 0 0 (by omega) (by simpa using h)]
  simp
theorem rdU_lt {l : List UInt8} {e : Int} : (rdU l e).1 < 18446744073709551616 := by
  unfold rdU
  split
  · exact decU_lt (by omega) (by simp)
  · exact (show (0 : Nat) < 18446744073709551616 by omega)
theorem rdU_suf {l : List UInt8} {e : Int} : ∃ p, l = p ++ (rdU l e).2.1 := by
  unfold rdU
  split
  · exact decU_suf
  · exact ⟨[], rfl⟩
theorem rdU_err {l : List UInt8} {e : Int} (h : (rdU l e).2.2 ≠ 0) : (rdU l e).1 = 0 := by
  unfold rdU at h ⊢
  split
  · rename_i he; rw [if_pos he] at h; exact decU_err h
  · rfl
def encR (x : List UInt8) : List UInt8 := encU x.length ++ x
theorem rdRaw_enc {x : List UInt8} (h : x.length < 18446744073709551616) (rest : List UInt8) : rdRaw (encR x ++ rest) 0 = (x, rest, 0) := by
  unfold rdRaw encR
  rw [List.append_assoc, rdU_enc h]
  simp
/-! ### The hash -/
def mixN (s w : Nat) : Nat := ((s ^^^ w) * 11400714819323198485 % 18446744073709551616) ^^^ ((s ^^^ w) * 11400714819323198485 % 18446744073709551616 / 4294967296)
theorem mixN_lt {s w : Nat} : mixN s w < 18446744073709551616 := by
  unfold mixN
  refine Nat.xor_lt_two_pow (n := 64) (Nat.mod_lt _ (by omega)) ?_
  exact Nat.lt_of_le_of_lt (Nat.div_le_self _ _) (Nat.mod_lt _ (by omega))
def wordN : List UInt8 → Nat
  | [] => 0
  | c :: b => c.toNat + 256 * wordN b
theorem wordN_lt : ∀ {b : List UInt8}, wordN b < 256 ^ b.length
  | [] => by simp [wordN]
  | c :: b => by
    have := wordN_lt (b := b)
    have := c.toNat_lt
    rw [wordN, List.length_cons, Nat.pow_succ]
    omega
theorem wordN_lt64 {b : List UInt8} (h : b.length ≤ 8) : wordN b < 18446744073709551616 :=
  Nat.lt_of_lt_of_le wordN_lt (Nat.le_trans (Nat.pow_le_pow_right (by omega) h) (by decide))
theorem wordN_snoc : ∀ (b : List UInt8) (c : UInt8), wordN (b ++ [c]) = wordN b + c.toNat * 256 ^ b.length
  | [], c => by simp [wordN]
  | x :: b, c => by
    rw [List.cons_append, wordN, wordN_snoc b c, wordN, List.length_cons, Nat.pow_succ, Nat.mul_add, ← Nat.mul_assoc c.toNat, Nat.mul_comm 256 (c.toNat * 256 ^ b.length)]
    omega
def wordsN (b : List UInt8) : List Nat := (List.range ((b.length + 7) / 8)).map fun k => wordN ((b.drop (8 * k)).take 8)
theorem wordsN_length (b : List UInt8) : (wordsN b).length = (b.length + 7) / 8 := by simp [wordsN]
theorem wordsN_get {b : List UInt8} {k : Nat} (h : k < (wordsN b).length) : (wordsN b)[k] = wordN ((b.drop (8 * k)).take 8) := by simp [wordsN]
def i64of (n : Nat) : Int := IntKind.i64.wrap (n : Int)
def u64of (n : Int) : Nat := (n % 18446744073709551616).toNat
theorem u64of_lt (n : Int) : u64of n < 18446744073709551616 := by unfold u64of; omega
theorem u64of_i64of {n : Nat} (h : n < 18446744073709551616) : u64of (i64of n) = n := by
  unfold u64of i64of
  simp [IntKind.wrap, IntKind.bits, IntKind.signed]
  split <;> omega
theorem i64of_range (n : Nat) : -9223372036854775808 ≤ i64of n ∧ i64of n ≤ 9223372036854775807 := by
  unfold i64of
  simp [IntKind.wrap, IntKind.bits, IntKind.signed]
  split <;> omega
theorem u64of_nat (n : Nat) : u64of (n : Int) = n % 18446744073709551616 := by unfold u64of; omega
theorem ConvV.iu64 {P : Program} {s t : TypeId} {n : Int} (hs : tyInt P s .i64 = true) (ht : tyInt P t .u64 = true) : ConvV P s t (I n) (U (u64of n)) := (ConvV.int hs ht).to (by
  show Value.int .u64 _ = Value.int .u64 ((u64of n : Nat) : Int)
  rw [wrap_u64i]; unfold u64of; congr 1; omega)
theorem ConvV.ui64 {P : Program} {s t : TypeId} {n : Nat} (hs : tyInt P s .u64 = true) (ht : tyInt P t .i64 = true) : ConvV P s t (U n) (I (i64of n)) := ConvV.int hs ht
def sumN (label : List UInt8) (l : List Int) : Nat :=
  mixN (l.foldl (fun s n => mixN s (u64of n)) (mixN (mixN ((wordsN label).foldl mixN 0) label.length) l.length)) 0
def hashN (label b : List UInt8) : Nat := sumN label ((wordsN b).map i64of ++ [(b.length : Int)])
theorem foldl_mix_lt : ∀ {l : List Nat} {s : Nat}, s < 18446744073709551616 → l.foldl mixN s < 18446744073709551616
  | [], _, h => h
  | x :: l, s, _ => foldl_mix_lt (l := l) mixN_lt
theorem foldl_mixI_lt : ∀ {l : List Int} {s : Nat}, s < 18446744073709551616 → l.foldl (fun s n => mixN s (u64of n)) s < 18446744073709551616
  | [], _, h => h
  | x :: l, s, _ => foldl_mixI_lt (l := l) mixN_lt
theorem hashN_lt {label b : List UInt8} : hashN label b < 18446744073709551616 := mixN_lt
/-! ### Frames -/
def jl : List UInt8 := [106, 111, 117, 114, 110, 97, 108]
def coreJ (i : Int) (x : List UInt8) : List UInt8 := encU (zz i) ++ encR x
def frameJ (i : Int) (x : List UInt8) : List UInt8 := encR (coreJ i x) ++ encU (hashN jl (coreJ i x))
def recOf (b : List UInt8) : List UInt8 :=
  let k := min b.length (10 + min (rdU (b.take 10) 0).1 b.length)
  let core := (rdRaw (b.take k) 0).1
  (rdRaw (rdU core 0).2.1 (rdU core 0).2.2).1
theorem coreJ_len {i : Int} {x : List UInt8} (h0 : -9223372036854775808 ≤ i) (h1 : i ≤ 9223372036854775807) (hx : x.length ≤ 4611686018427387904) : (coreJ i x).length ≤ x.length + 20 ∧ x.length < (coreJ i x).length := by
  have := encU_len10 (zz_lt h0 h1)
  have := encU_len10 (n := x.length) (by omega)
  have := encU_pos (zz i)
  unfold coreJ encR
  simp only [List.length_append]
  omega
theorem frameJ_len {i : Int} {x : List UInt8} (h0 : -9223372036854775808 ≤ i) (h1 : i ≤ 9223372036854775807) (hx : x.length ≤ 4611686018427387000) : (frameJ i x).length ≤ x.length + 40 ∧ x.length < (frameJ i x).length := by
  have := coreJ_len h0 h1 (x := x) (by omega)
  have := encU_len10 (n := (coreJ i x).length) (by omega)
  have := encU_len10 (hashN_lt (label := jl) (b := coreJ i x))
  unfold frameJ
  rw [List.length_append, encR, List.length_append]
  omega
theorem recOf_frame {i : Int} {x rest : List UInt8} (h0 : -9223372036854775808 ≤ i) (h1 : i ≤ 9223372036854775807) (hx : x.length ≤ 4611686018427387000) : recOf (frameJ i x ++ rest) = x := by
  have hc := coreJ_len h0 h1 (x := x) (by omega)
  have hl := encU_len10 (n := (coreJ i x).length) (by omega)
  have e1 : frameJ i x ++ rest = encU (coreJ i x).length ++ (coreJ i x ++ (encU (hashN jl (coreJ i x)) ++ rest)) := by
    unfold frameJ encR; simp only [List.append_assoc]
  have e2 : rdU ((frameJ i x ++ rest).take 10) 0 = ((coreJ i x).length, (coreJ i x ++ (encU (hashN jl (coreJ i x)) ++ rest)).take (10 - (encU (coreJ i x).length).length), 0) := by
    rw [e1, List.take_append, List.take_of_length_le hl]
    exact rdU_enc (by omega) _
  have hlen : (frameJ i x ++ rest).length = (encU (coreJ i x).length).length + ((coreJ i x).length + (encU (hashN jl (coreJ i x)) ++ rest).length) := by
    rw [e1]; simp only [List.length_append]
  unfold recOf
  simp only [e2]
  have hk : ∃ r', (frameJ i x ++ rest).take (min (frameJ i x ++ rest).length (10 + min (coreJ i x).length (frameJ i x ++ rest).length)) = encR (coreJ i x) ++ r' := by
    rw [Nat.min_eq_left (show (coreJ i x).length ≤ (frameJ i x ++ rest).length by omega)]
    refine ⟨(encU (hashN jl (coreJ i x)) ++ rest).take (min (frameJ i x ++ rest).length (10 + (coreJ i x).length) - (encR (coreJ i x)).length), ?_⟩
    have hR : (encR (coreJ i x)).length = (encU (coreJ i x).length).length + (coreJ i x).length := by unfold encR; rw [List.length_append]
    rw [show frameJ i x ++ rest = encR (coreJ i x) ++ (encU (hashN jl (coreJ i x)) ++ rest) from by unfold frameJ; rw [List.append_assoc], List.take_append]
    congr 1
    rw [List.take_of_length_le]
    rw [← List.append_assoc, show encR (coreJ i x) ++ encU (hashN jl (coreJ i x)) = frameJ i x from rfl]
    omega
  obtain ⟨r', hr'⟩ := hk
  rw [hr', rdRaw_enc (by omega)]
  simp only
  rw [coreJ, rdU_enc (zz_lt h0 h1)]
  simp only
  have := rdRaw_enc (x := x) (by omega) []
  rw [List.append_nil] at this
  rw [this]
/-! ### A writer's buffer -/
def WrB (T e b : Nat) (l : List UInt8) : HP := Ex (ι := Option Addr × Nat) fun i => [Box b T [.slice i.1 l.length i.2], OwnSl e 1 i.1 l.length i.2 (bytesV l)]
theorem St.wrNew {w : World} {M : List HP} {F : List Fact} {T e b : Nat} (h : St w (Box b T [.slice none 0 0] :: M) F) : St w (WrB T e b [] :: M) F :=
  St.exClose (none, 0) ((OwnSl.nil_new e 1 h).swap)
theorem St.wrClose {w : World} {M : List HP} {F : List Fact} {T e b n : Nat} {oa : Option Addr} {c : Nat} {l : List UInt8} {xs : List Value} (hn : n = l.length) (hx : xs = bytesV l) (h : St w (Box b T [.slice oa n c] :: OwnSl e 1 oa n c xs :: M) F) : St w (WrB T e b l :: M) F := by
  subst hn hx
  exact St.exClose (oa, c) h
theorem bytesV_snoc (l : List UInt8) (c : UInt8) : bytesV (l ++ [c]) = bytesV l ++ [.int .u8 (c.toNat : Int)] := by simp [bytesV]
theorem zz_bits {n : Int} (h0 : -9223372036854775808 ≤ n) (h1 : n ≤ 9223372036854775807) : (u64of n * 2 ^ 1 % 18446744073709551616) ^^^ u64of (n.fdiv (2 ^ 63)) = zz n := by
  have e : (2 : Int) ^ 63 = 9223372036854775808 := by decide
  unfold zz
  by_cases h : n < 0
  · rw [if_pos h]
    have e2 : n.fdiv (2 ^ 63) = -1 := by rw [e, Int.fdiv_eq_ediv_of_nonneg _ (by omega)]; omega
    have e3 : u64of (-1) = 18446744073709551615 := by decide
    rw [e2, e3, xor_ones (Nat.mod_lt _ (by omega))]
    unfold u64of
    omega
  · rw [if_neg h]
    have e2 : n.fdiv (2 ^ 63) = 0 := by rw [e, Int.fdiv_eq_ediv_of_nonneg _ (by omega)]; omega
    have e3 : u64of 0 = 0 := by decide
    rw [e2, e3, Nat.xor_zero]
    unfold u64of
    omega
/-- a variable that holds a row of one's own -/
def VarB (T e size b n : Nat) (xs : List Value) : HP := Ex (ι := Option Addr × Nat) fun i => [Box b T [.slice i.1 n i.2], OwnSl e size i.1 n i.2 xs]
theorem St.varNew {w : World} {M : List HP} {F : List Fact} {T e size b : Nat} (h : St w (Box b T [.slice none 0 0] :: M) F) : St w (VarB T e size b 0 [] :: M) F :=
  St.exClose (none, 0) ((OwnSl.nil_new e size h).swap)
def wordEnc : Nat → List Value → Prop := fun n args => args = [U n]
theorem wordEnc_len (x : Nat) (args : List Value) (h : wordEnc x args) : args.length = 1 := by rw [show args = [U x] from h]; rfl
theorem or_word {w c j : Nat} (hw : w < 256 ^ j) (hc : c < 256) (hj : j ≤ 7) : w ||| (c * 2 ^ (8 * j) % 18446744073709551616) = w + c * 256 ^ j := by
  have e : (2 : Nat) ^ (8 * j) = 256 ^ j := by rw [Nat.pow_mul]
  have hb : c * 256 ^ j < 18446744073709551616 := by
    have h1 : c * 256 ^ j ≤ 255 * 256 ^ j := Nat.mul_le_mul_right _ (by omega)
    have h2 : (256 : Nat) ^ j ≤ 256 ^ 7 := Nat.pow_le_pow_right (by omega) hj
    have h3 : (256 : Nat) ^ 7 = 72057594037927936 := by decide
    omega
  rw [e, Nat.mod_eq_of_lt hb, Nat.or_comm]
  have := Nat.two_pow_add_eq_or_of_lt (i := 8 * j) (b := w) (by rw [e]; exact hw) c
  rw [e, Nat.mul_comm] at this
  rw [← this, Nat.add_comm]
theorem take_word {b : List UInt8} {k j : Nat} (h : 8 * k + j < b.length) : (b.drop (8 * k)).take (j + 1) = (b.drop (8 * k)).take j ++ [b[8 * k + j]] := by
  rw [List.take_succ_eq_append_getElem (by rw [List.length_drop]; omega), List.getElem_drop]
theorem word_len {b : List UInt8} {k j : Nat} (h : 8 * k + j ≤ b.length) : ((b.drop (8 * k)).take j).length = j := by
  rw [List.length_take, List.length_drop]; omega
theorem word_step {b : List UInt8} {k j : Nat} (h : 8 * k + j < b.length) (hj : j ≤ 7) : wordN ((b.drop (8 * k)).take j) ||| (b[8 * k + j].toNat * 2 ^ (8 * j) % 18446744073709551616) = wordN ((b.drop (8 * k)).take (j + 1)) := by
  rw [or_word (by have := wordN_lt (b := (b.drop (8 * k)).take j); rwa [word_len (by omega)] at this) (b[8 * k + j]).toNat_lt hj, take_word h, wordN_snoc, word_len (by omega)]
theorem word_all {b : List UInt8} {k j : Nat} (h : ¬ (j : Int) + 8 * k < min (8 * (k : Int) + 8) b.length) (hj : j ≤ 8) (hl : 8 * k + j ≤ b.length) : (b.drop (8 * k)).take j = (b.drop (8 * k)).take 8 := by
  rcases Nat.lt_or_ge j 8 with h8 | h8
  · rw [List.take_of_length_le (by rw [List.length_drop]; omega), List.take_of_length_le (by rw [List.length_drop]; omega)]
  · rw [show j = 8 from by omega]
theorem bytesV_get {b : List UInt8} {i : Nat} (h : i < b.length) : (bytesV b)[((i : Nat) : Int).toNat * 1]? = some (.int .u8 (b[i].toNat : Int)) := by
  rw [Int.toNat_natCast, Nat.mul_one, bytesV, List.getElem?_map, List.getElem?_eq_getElem h]; rfl
theorem bytesV_ne {b : List UInt8} {i : Nat} (h : i < b.length) : bytesV b ≠ [] := by
  intro e; have h9 := bytesV_length b; rw [e] at h9; simp at h9; omega
theorem words_lt {b : List UInt8} {pre suf : List Nat} {x : Nat} (h : wordsN b = pre ++ x :: suf) : x < 18446744073709551616 := by
  have hm : x ∈ wordsN b := by rw [h]; simp
  unfold wordsN at hm
  obtain ⟨k, _, rfl⟩ := List.mem_map.1 hm
  exact wordN_lt64 (by rw [List.length_take]; omega)
/-! ### Readers in memory -/
structure RdX where
  oa : Option Addr
  c : Nat
theorem uz_range {z : Nat} (h : z < 18446744073709551616) : -9223372036854775808 ≤ uz z ∧ uz z ≤ 9223372036854775807 := by
  unfold uz; split <;> omega
theorem xor_neg1 {x : Int} (h0 : 0 ≤ x) (h1 : x ≤ 9223372036854775807) : bits .xor .i64 x (-1) = -x - 1 := by
  obtain ⟨n, rfl⟩ := Int.eq_ofNat_of_zero_le h0
  have e1 : BitVec.ofInt 64 (n : Int) = BitVec.ofNat 64 n := by simp
  have e2 : BitVec.ofInt 64 (-1) = BitVec.allOnes 64 := by decide
  have e3 : (BitVec.ofNat 64 n ^^^ BitVec.allOnes 64).toNat = 18446744073709551615 - n := by
    rw [BitVec.xor_allOnes, BitVec.toNat_not, BitVec.toNat_ofNat, Nat.mod_eq_of_lt (by omega)]
  show IntKind.i64.wrap ((BitVec.ofInt 64 (n : Int) ^^^ BitVec.ofInt 64 (-1)).toNat : Int) = _
  rw [e1, e2, e3]
  simp [IntKind.wrap, IntKind.bits, IntKind.signed]
  omega
theorem xor_zero {x : Int} (h0 : 0 ≤ x) (h1 : x ≤ 9223372036854775807) : bits .xor .i64 x 0 = x := by
  obtain ⟨n, rfl⟩ := Int.eq_ofNat_of_zero_le h0
  have e1 : BitVec.ofInt 64 (n : Int) = BitVec.ofNat 64 n := by simp
  have e2 : BitVec.ofInt 64 0 = 0#64 := by decide
  show IntKind.i64.wrap ((BitVec.ofInt 64 (n : Int) ^^^ BitVec.ofInt 64 0).toNat : Int) = _
  rw [e1, e2, BitVec.xor_zero, BitVec.toNat_ofNat, Nat.mod_eq_of_lt (by omega), wrap64_id (by omega) h1]
theorem i64of_small {n : Nat} (h : n < 9223372036854775808) : i64of n = (n : Int) := wrap64_id (by omega) (by omega)
theorem uz_bits {z : Nat} (h : z < 18446744073709551616) : bits .xor .i64 (i64of (z / 2 ^ 1)) (-(i64of (z &&& 1))) = uz z := by
  rw [show (2 : Nat) ^ 1 = 2 from rfl, nat_mask1, i64of_small (by omega), i64of_small (by omega)]
  unfold uz
  by_cases h1 : z % 2 = 1
  · rw [if_pos h1, h1]; exact xor_neg1 (by omega) (by omega)
  · rw [if_neg h1, show z % 2 = 0 from by omega]; exact xor_zero (by omega) (by omega)
theorem or_add {n m i : Nat} (h : n < 2 ^ (7 * i)) (hm : m * 2 ^ (7 * i) < 18446744073709551616) : n ||| (m * 2 ^ (7 * i) % 18446744073709551616) = n + m * 2 ^ (7 * i) := by
  rw [Nat.mod_eq_of_lt hm, Nat.or_comm]
  have := Nat.two_pow_add_eq_or_of_lt h m
  rw [Nat.mul_comm] at this
  rw [← this, Nat.add_comm]
/-- a byte that does not fit -/
def badU (i : Nat) (c : UInt8) : Prop := (i = 9 ∧ 1 < c.toNat) ∨ (0 < i ∧ c.toNat = 0)
theorem decU_bad {i n : Nat} {c : UInt8} {b : List UInt8} (h : badU i c) : decU i n (c :: b) = (0, b, 2) := by rw [decU]; exact if_pos h
theorem decU_last {i n : Nat} {c : UInt8} {b : List UInt8} (h : ¬ badU i c) (hc : c.toNat < 128) : decU i n (c :: b) = (n + c.toNat % 128 * 2 ^ (7 * i), b, 0) := by rw [decU]; exact (if_neg h).trans (if_pos hc)
theorem decU_more {i n : Nat} {c : UInt8} {b : List UInt8} (h : ¬ badU i c) (hc : ¬ c.toNat < 128) : decU i n (c :: b) = decU (i + 1) (n + c.toNat % 128 * 2 ^ (7 * i)) b := by rw [decU]; exact (if_neg h).trans (if_neg hc)
theorem byte_fits {i n : Nat} {c : UInt8} (h : ¬ badU i c) (hi : i ≤ 9) (hn : n < 2 ^ (7 * i)) : n + c.toNat % 128 * 2 ^ (7 * i) < 18446744073709551616 ∧ (i ≤ 8 → n + c.toNat % 128 * 2 ^ (7 * i) < 2 ^ (7 * (i + 1))) := by
  unfold badU at h
  have hm : c.toNat % 128 < 128 := Nat.mod_lt _ (by omega)
  have hstep : n + c.toNat % 128 * 2 ^ (7 * i) < 2 ^ (7 * (i + 1)) := by
    rw [show 7 * (i + 1) = 7 * i + 7 from by omega, Nat.pow_add, show (2 : Nat) ^ 7 = 128 from rfl]
    have : c.toNat % 128 * 2 ^ (7 * i) ≤ 127 * 2 ^ (7 * i) := Nat.mul_le_mul_right _ (by omega)
    omega
  refine ⟨?_, fun _ => hstep⟩
  by_cases h9 : i = 9
  · subst h9
    have e : (2 : Nat) ^ (7 * 9) = 9223372036854775808 := by decide
    rw [e] at hn ⊢
    have : c.toNat % 128 * 9223372036854775808 ≤ 1 * 9223372036854775808 := Nat.mul_le_mul_right _ (by omega)
    omega
  · refine Nat.lt_of_lt_of_le hstep ?_
    have : (2 : Nat) ^ (7 * (i + 1)) ≤ 2 ^ 64 := Nat.pow_le_pow_right (by omega) (by omega)
    exact this
theorem rdRaw_err {l : List UInt8} {e : Int} (h : (rdU l e).2.2 ≠ 0) : rdRaw l e = ([], (rdU l e).2.1, (rdU l e).2.2) := by unfold rdRaw; rw [if_neg h]
theorem rdRaw_far {l : List UInt8} {e : Int} (h : (rdU l e).2.2 = 0) (hn : (rdU l e).2.1.length < (rdU l e).1) : rdRaw l e = ([], (rdU l e).2.1, 3) := by unfold rdRaw; rw [if_pos h, if_neg (by omega)]
theorem rdRaw_ok {l : List UInt8} {e : Int} (h : (rdU l e).2.2 = 0) (hn : (rdU l e).1 ≤ (rdU l e).2.1.length) : rdRaw l e = ((rdU l e).2.1.take (rdU l e).1, (rdU l e).2.1.drop (rdU l e).1, 0) := by unfold rdRaw; rw [if_pos h, if_pos hn]
/-- the rest of a slice of bytes -/
theorem St.cutB {w : World} {M : List HP} {F : List Fact} {oa : Option Addr} {cap : Nat} {l : List UInt8} (k : Nat) (hk : k ≤ l.length) (hc : l.length ≤ cap) (hF : ArrF oa (bytesV l) ∈ F) (h : St w M F) : St w M (ArrF (cutA oa k cap 1) (bytesV (l.drop k)) :: F) :=
  h.derive fun K hf => by
    have h9 := ArrAt.cut (size := 1) (cap := cap) (n := l.length) (hf _ hF) k l.length (by rw [bytesV_length, Nat.mul_one]) (Nat.le_refl _) hc
    rw [Nat.mul_one, Nat.mul_one, List.take_of_length_le (by rw [bytesV_length]; omega)] at h9
    show ArrAt _ _ _ _
    rw [show bytesV (l.drop k) = (bytesV l).drop k from by simp [bytesV]]
    exact h9
theorem St.cutT {w : World} {M : List HP} {F : List Fact} {oa : Option Addr} {cap : Nat} {l : List UInt8} (k : Nat) (hc : l.length ≤ cap) (hF : ArrF oa (bytesV l) ∈ F) (h : St w M F) : St w M (ArrF (cutA oa 0 cap 1) (bytesV (l.take k)) :: F) :=
  h.derive fun K hf => by
    have h9 := ArrAt.cut (size := 1) (cap := cap) (n := l.length) (hf _ hF) 0 (min k l.length) (by rw [bytesV_length, Nat.mul_one]) (Nat.min_le_right _ _) hc
    simp only [Nat.mul_one, List.drop_zero] at h9
    show ArrAt _ _ _ _
    have e : bytesV (l.take k) = (bytesV l).take (min k l.length) := by
      rw [show bytesV (l.take k) = (bytesV l).take k from by simp [bytesV]]
      rcases Nat.le_total k l.length with h1 | h1
      · rw [Nat.min_eq_left h1]
      · rw [Nat.min_eq_right h1, List.take_of_length_le (by rw [bytesV_length]; omega), List.take_of_length_le (by rw [bytesV_length]; omega)]
    rw [e]
    exact h9
end Go.GL
