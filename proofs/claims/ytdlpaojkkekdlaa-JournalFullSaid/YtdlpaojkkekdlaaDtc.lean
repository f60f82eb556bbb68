/- A bit that is inverted is found: plain laws. No program. -/
import Derived.Test.YtdlpaojkkekdlaaFrk
namespace Go.GL
set_option linter.unusedVariables false
theorem xor_cancel {a b c : Nat} (h : a ^^^ b = a ^^^ c) : b = c := by
  have h1 := congrArg (fun z => a ^^^ z) h
  simp only [← Nat.xor_assoc, Nat.xor_self, Nat.zero_xor] at h1
  exact h1
theorem fold_inj {x y : Nat} (hx : x < 18446744073709551616) (hy : y < 18446744073709551616) (h : x ^^^ (x / 4294967296) = y ^^^ (y / 4294967296)) : x = y := by
  have e : (2 : Nat) ^ 32 = 4294967296 := by decide
  have h1 : (x ^^^ (x / 4294967296)) / 4294967296 = x / 4294967296 := by
    rw [← e, ← Nat.shiftRight_eq_div_pow, ← Nat.shiftRight_eq_div_pow, Nat.shiftRight_xor_distrib, ← Nat.shiftRight_add]
    rw [show x >>> (32 + 32) = 0 from by rw [Nat.shiftRight_eq_div_pow]; exact Nat.div_eq_of_lt hx, Nat.xor_zero]
  have h2 : (y ^^^ (y / 4294967296)) / 4294967296 = y / 4294967296 := by
    rw [← e, ← Nat.shiftRight_eq_div_pow, ← Nat.shiftRight_eq_div_pow, Nat.shiftRight_xor_distrib, ← Nat.shiftRight_add]
    rw [show y >>> (32 + 32) = 0 from by rw [Nat.shiftRight_eq_div_pow]; exact Nat.div_eq_of_lt hy, Nat.xor_zero]
  have h3 : x / 4294967296 = y / 4294967296 := by rw [← h1, ← h2, h]
  rw [h3, Nat.xor_comm, Nat.xor_comm y] at h
  exact xor_cancel h
theorem mul_inj {a b : Nat} (ha : a < 18446744073709551616) (hb : b < 18446744073709551616) (h : a * 11400714819323198485 % 18446744073709551616 = b * 11400714819323198485 % 18446744073709551616) : a = b := by
  have h1 : ∀ z : Nat, z < 18446744073709551616 → (z * 11400714819323198485 % 18446744073709551616) * 17428512612931826493 % 18446744073709551616 = z := by
    intro z hz
    rw [Nat.mod_mul_mod, Nat.mul_assoc, Nat.mul_mod, show 11400714819323198485 * 17428512612931826493 % 18446744073709551616 = 1 from by decide, Nat.mul_one, Nat.mod_mod, Nat.mod_eq_of_lt hz]
  rw [← h1 a ha, ← h1 b hb, h]
theorem mixN_core {x y : Nat} (hx : x < 18446744073709551616) (hy : y < 18446744073709551616) (h : (x * 11400714819323198485 % 18446744073709551616) ^^^ (x * 11400714819323198485 % 18446744073709551616 / 4294967296) = (y * 11400714819323198485 % 18446744073709551616) ^^^ (y * 11400714819323198485 % 18446744073709551616 / 4294967296)) : x = y :=
  mul_inj hx hy (fold_inj (Nat.mod_lt _ (by decide)) (Nat.mod_lt _ (by decide)) h)
theorem xor_lt64 {a b : Nat} (ha : a < 18446744073709551616) (hb : b < 18446744073709551616) : a ^^^ b < 18446744073709551616 := Nat.xor_lt_two_pow (n := 64) ha hb
theorem mixN_injW {s w w' : Nat} (hs : s < 18446744073709551616) (hw : w < 18446744073709551616) (hw' : w' < 18446744073709551616) (h : mixN s w = mixN s w') : w = w' :=
  xor_cancel (mixN_core (xor_lt64 hs hw) (xor_lt64 hs hw') h)
theorem mixN_injS {s s' w : Nat} (hs : s < 18446744073709551616) (hs' : s' < 18446744073709551616) (hw : w < 18446744073709551616) (h : mixN s w = mixN s' w) : s = s' := by
  have h1 := mixN_core (xor_lt64 hs hw) (xor_lt64 hs' hw) h
  rw [Nat.xor_comm, Nat.xor_comm s'] at h1
  exact xor_cancel h1
theorem fold_injS : ∀ (l : List Int) {s s' : Nat}, s < 18446744073709551616 → s' < 18446744073709551616 → l.foldl (fun s n => mixN s (u64of n)) s = l.foldl (fun s n => mixN s (u64of n)) s' → s = s'
  | [], _, _, _, _, h => h
  | x :: l, s, s', hs, hs', h => by
    rw [List.foldl_cons, List.foldl_cons] at h
    exact mixN_injS hs hs' (u64of_lt x) (fold_injS l mixN_lt mixN_lt h)
theorem fold_set : ∀ (l : List Int) (k : Nat) (y : Int) {s : Nat}, s < 18446744073709551616 → (h : k < l.length) → u64of y ≠ u64of l[k] → (l.set k y).foldl (fun s n => mixN s (u64of n)) s ≠ l.foldl (fun s n => mixN s (u64of n)) s
  | [], _, _, _, _, h, _ => absurd h (by simp)
  | x :: l, 0, y, s, hs, h, hne => by
    intro e
    rw [List.set_cons_zero, List.foldl_cons, List.foldl_cons] at e
    exact hne (mixN_injW hs (u64of_lt y) (u64of_lt x) (fold_injS l mixN_lt mixN_lt e))
  | x :: l, k + 1, y, s, hs, h, hne => by
    rw [List.set_cons_succ, List.foldl_cons, List.foldl_cons]
    exact fold_set l k y mixN_lt (by simpa using h) hne
theorem wordN_set : ∀ (b : List UInt8) (j : Nat) (v : UInt8) (h : j < b.length), v ≠ b[j] → wordN (b.set j v) ≠ wordN b
  | [], _, _, h, _ => absurd h (by simp)
  | x :: b, 0, v, h, hne => by
    intro e
    rw [List.set_cons_zero, wordN, wordN] at e
    have h1 := v.toNat_lt
    have h2 := x.toNat_lt
    exact hne (UInt8.toNat_inj.1 (show v.toNat = x.toNat by omega))
  | x :: b, j + 1, v, h, hne => by
    intro e
    rw [List.set_cons_succ, wordN, wordN] at e
    exact wordN_set b j v (by simpa using h) hne (by omega)
theorem wordsN_set {b : List UInt8} {p : Nat} {v : UInt8} (h : p < b.length) : wordsN (b.set p v) = (wordsN b).set (p / 8) (wordN (((b.set p v).drop (8 * (p / 8))).take 8)) := by
  refine List.ext_getElem ?_ fun k h1 h2 => ?_
  · rw [List.length_set, wordsN_length, wordsN_length, List.length_set]
  · rw [wordsN_get h1, List.getElem_set]
    split
    · rename_i e; rw [e]
    · rename_i e
      rw [wordsN_get (by rwa [List.length_set] at h2)]
      congr 1
      refine List.ext_getElem (by simp) fun j h3 h4 => ?_
      rw [List.getElem_take, List.getElem_take, List.getElem_drop, List.getElem_drop, List.getElem_set]
      rw [if_neg]
      intro e2
      have : j < 8 := by rw [List.length_take] at h3; omega
      omega
theorem hash_set {lb b : List UInt8} {p : Nat} {v : UInt8} (h : p < b.length) (hne : v ≠ b[p]) : hashN lb (b.set p v) ≠ hashN lb b := by
  intro e
  unfold hashN sumN at e
  have hw := mixN_injS (foldl_mixI_lt mixN_lt) (foldl_mixI_lt mixN_lt) (by decide) e
  have hlen : p / 8 < (wordsN b).length := by rw [wordsN_length]; omega
  rw [wordsN_set h, List.length_append, List.length_append, List.length_map, List.length_map, List.length_set, List.length_set, List.map_set, List.foldl_append, List.foldl_append] at hw
  have hw2 := fold_injS [(b.length : Int)] (foldl_mixI_lt mixN_lt) (foldl_mixI_lt mixN_lt) hw
  refine fold_set ((wordsN b).map i64of) (p / 8) _ (s := _) mixN_lt (by rw [List.length_map]; exact hlen) ?_ hw2
  have hwl : ∀ c : List UInt8, wordN ((c.drop (8 * (p / 8))).take 8) < 18446744073709551616 := fun c => wordN_lt64 (by rw [List.length_take]; omega)
  rw [List.getElem_map, wordsN_get hlen, u64of_i64of (hwl _), u64of_i64of (hwl _)]
  have e1 : ((b.set p v).drop (8 * (p / 8))).take 8 = ((b.drop (8 * (p / 8))).take 8).set (p % 8) v := by
    rw [List.drop_set, if_neg (by omega), List.take_set, show p - 8 * (p / 8) = p % 8 from by omega]
  rw [e1]
  refine wordN_set _ _ _ (by rw [List.length_take, List.length_drop]; omega) ?_
  rw [List.getElem_take, List.getElem_drop]
  have e2 : 8 * (p / 8) + p % 8 = p := by omega
  simpa only [e2] using hne
theorem encU_prefix {m n : Nat} {a b : List UInt8} (hm : m < 18446744073709551616) (hn : n < 18446744073709551616) (h : encU m ++ a = encU n ++ b) : m = n ∧ a = b := by
  have h1 := rdU_enc hm a
  rw [h, rdU_enc hn b] at h1
  have h2 := congrArg (fun z => z.1) h1
  have h3 := congrArg (fun z => z.2.1) h1
  exact ⟨h2.symm, h3.symm⟩
/-- the part of a frame ahead of its core -/
def aheadJ (i : Int) (x : List UInt8) : Nat := (encU (coreJ i x).length).length
theorem turned_no {x : List UInt8} {p : Nat} {v : UInt8} (hx : x.length ≤ 200) (hp : aheadJ 0 x ≤ p) (hpl : p < (frameJ 0 x).length) (hv : v ≠ (frameJ 0 x)[p]) (y : List UInt8) (hy : y.length ≤ 4611686018427387000) : ¬ frameJ 0 y <+: (frameJ 0 x).set p v := by
  rintro ⟨t, ht⟩
  have hcx := coreJ_len (i := 0) (x := x) (by decide) (by decide) (by omega)
  have hcy := coreJ_len (i := 0) (x := y) (by decide) (by decide) (by omega)
  have hlt : (coreJ 0 x).length < 18446744073709551616 := by omega
  have hlty : (coreJ 0 y).length < 18446744073709551616 := by omega
  have hf : frameJ 0 x = encU (coreJ 0 x).length ++ (coreJ 0 x ++ encU (hashN jl (coreJ 0 x))) := by unfold frameJ encR; rw [List.append_assoc]
  have hg : frameJ 0 y = encU (coreJ 0 y).length ++ (coreJ 0 y ++ encU (hashN jl (coreJ 0 y))) := by unfold frameJ encR; rw [List.append_assoc]
  have hfl := congrArg List.length hf
  rw [List.length_append, List.length_append] at hfl
  have hp' : (encU (coreJ 0 x).length).length ≤ p := hp
  have hset : (frameJ 0 x).set p v = encU (coreJ 0 x).length ++ ((coreJ 0 x ++ encU (hashN jl (coreJ 0 x))).set (p - (encU (coreJ 0 x).length).length) v) := by
    rw [hf, List.set_append_right _ _ hp']
  rw [hset, hg, List.append_assoc] at ht
  obtain ⟨e1, e2⟩ := encU_prefix hlty hlt ht
  by_cases hin : p - (encU (coreJ 0 x).length).length < (coreJ 0 x).length
  · rw [List.set_append_left _ _ hin, List.append_assoc] at e2
    have e3 := List.append_inj e2 (by rw [List.length_set]; exact e1)
    have e4 := (encU_prefix (a := t) (b := []) hashN_lt hashN_lt (by rw [List.append_nil]; exact e3.2)).1
    rw [e3.1] at e4
    refine hash_set hin ?_ e4
    intro e
    apply hv
    rw [e]
    have : (frameJ 0 x)[p]? = some (coreJ 0 x)[p - (encU (coreJ 0 x).length).length] := by
      rw [hf, List.getElem?_append_right hp', List.getElem?_append_left hin, List.getElem?_eq_getElem hin]
    rw [List.getElem?_eq_getElem hpl] at this
    exact (Option.some.inj this).symm
  · have hge : (coreJ 0 x).length ≤ p - (encU (coreJ 0 x).length).length := by omega
    rw [List.set_append_right _ _ hge, List.append_assoc] at e2
    have e3 := List.append_inj e2 e1
    have e4 := e3.2
    rw [e3.1] at e4
    have hl := congrArg List.length e4
    rw [List.length_append, List.length_set] at hl
    have ht0 : t = [] := List.eq_nil_of_length_eq_zero (by omega)
    rw [ht0, List.append_nil] at e4
    have hq : p - (encU (coreJ 0 x).length).length - (coreJ 0 x).length < (encU (hashN jl (coreJ 0 x))).length := by omega
    apply hv
    have h5 : (encU (hashN jl (coreJ 0 x)))[p - (encU (coreJ 0 x).length).length - (coreJ 0 x).length]? = some v := by
      rw [e4, List.getElem?_set_self hq]
    have : (frameJ 0 x)[p]? = some v := by
      rw [hf, List.getElem?_append_right hp', List.getElem?_append_right hge, h5]
    rw [List.getElem?_eq_getElem hpl] at this
    exact (Option.some.inj this).symm
theorem turned_scan {x : List UInt8} {p : Nat} {v : UInt8} (hx : x.length ≤ 200) (hp : aheadJ 0 x ≤ p) (hpl : p < (frameJ 0 x).length) (hv : v ≠ (frameJ 0 x)[p]) : scanJ 0 ((frameJ 0 x).set p v) = [] := by
  refine scanJ_no ?_
  have hl := (frameJ_len (i := 0) (x := x) (by decide) (by decide) (by omega)).1
  have h2 := recOf_len (b := (frameJ 0 x).set p v)
  rw [List.length_set] at h2
  exact turned_no hx hp hpl hv _ (by omega)
end Go.GL
