/- Logs of records: plain functions and laws; lists of records in memory. No condition; no program. -/
import Derived.Test.YtdlpaojkkekdlaaWir
import Derived.Test.YtdlpaojkkekdlaaItr
namespace Go.GL
set_option linter.unusedVariables false
/-! ### Scans -/
theorem frameJ_pos (i : Int) (x : List UInt8) : 0 < (frameJ i x).length := by
  have := encU_pos (hashN jl (coreJ i x))
  unfold frameJ
  rw [List.length_append]; omega
def framesJ : Nat → List (List UInt8) → List UInt8
  | _, [] => []
  | i, x :: xs => frameJ (i : Int) x ++ framesJ (i + 1) xs
def scanJ (i : Nat) (b : List UInt8) : List (List UInt8) :=
  if h : b ≠ [] ∧ frameJ (i : Int) (recOf b) <+: b then recOf b :: scanJ (i + 1) (b.drop (frameJ (i : Int) (recOf b)).length) else []
termination_by b.length
decreasing_by
  have h1 := frameJ_pos (i : Int) (recOf b)
  have h2 : 0 < b.length := by
    cases b with
    | nil => exact absurd rfl h.1
    | cons x l => simp
  rw [List.length_drop]; omega
theorem scanJ_yes {i : Nat} {b : List UInt8} (h0 : b ≠ []) (h1 : frameJ (i : Int) (recOf b) <+: b) : scanJ i b = recOf b :: scanJ (i + 1) (b.drop (frameJ (i : Int) (recOf b)).length) := by
  rw [scanJ, dif_pos ⟨h0, h1⟩]
theorem scanJ_no {i : Nat} {b : List UInt8} (h1 : ¬ frameJ (i : Int) (recOf b) <+: b) : scanJ i b = [] := by
  rw [scanJ, dif_neg (fun h => h1 h.2)]
theorem scanJ_nil {i : Nat} : scanJ i [] = [] := by rw [scanJ, dif_neg (fun h => h.1 rfl)]
theorem framesJ_append : ∀ (xs ys : List (List UInt8)) (i : Nat), framesJ i (xs ++ ys) = framesJ i xs ++ framesJ (i + xs.length) ys
  | [], ys, i => by simp [framesJ]
  | x :: xs, ys, i => by
    rw [List.cons_append, framesJ, framesJ, framesJ_append xs ys, List.length_cons, List.append_assoc, show i + 1 + xs.length = i + (xs.length + 1) from by omega]
theorem framesJ_snoc (xs : List (List UInt8)) (x : List UInt8) (i : Nat) : framesJ i (xs ++ [x]) = framesJ i xs ++ frameJ ((i + xs.length : Nat) : Int) x := by
  rw [framesJ_append, framesJ, framesJ, List.append_nil]
theorem scanJ_split : ∀ (n : Nat) (b : List UInt8) (i : Nat), b.length ≤ n → ∃ rest, b = framesJ i (scanJ i b) ++ rest := by
  intro n
  induction n with
  | zero =>
    intro b i h
    have : b = [] := List.eq_nil_of_length_eq_zero (by omega)
    subst this
    exact ⟨[], by rw [scanJ_nil]; rfl⟩
  | succ n ih =>
    intro b i h
    by_cases h1 : b ≠ [] ∧ frameJ (i : Int) (recOf b) <+: b
    · rw [scanJ_yes h1.1 h1.2, framesJ]
      obtain ⟨t, ht⟩ := h1.2
      have e : b.drop (frameJ (i : Int) (recOf b)).length = t := (congrArg (List.drop (frameJ (i : Int) (recOf b)).length) ht).symm.trans List.drop_left
      have hp := frameJ_pos (i : Int) (recOf b)
      have hl := congrArg List.length ht
      rw [List.length_append] at hl
      obtain ⟨rest, hr⟩ := ih t (i + 1) (by omega)
      refine ⟨rest, ?_⟩
      rw [e, List.append_assoc, ← hr, ht]
    · exact ⟨b, by rw [scanJ, dif_neg h1]; rfl⟩
/-- records and numbers that fit -/
def FitJ (i : Nat) (xs : List (List UInt8)) : Prop := i + xs.length ≤ 9223372036854775807 ∧ ∀ x, x ∈ xs → x.length ≤ 4611686018427387000
theorem scanJ_frames : ∀ (xs : List (List UInt8)) (i : Nat) (rest : List UInt8), FitJ i xs → scanJ i (framesJ i xs ++ rest) = xs ++ scanJ (i + xs.length) rest
  | [], i, rest, _ => by simp [framesJ]
  | x :: xs, i, rest, h => by
    have hx := h.2 x (.head _)
    have h1 := h.1
    rw [List.length_cons] at h1
    have hr : recOf (framesJ i (x :: xs) ++ rest) = x := by
      rw [framesJ, List.append_assoc]; exact recOf_frame (by omega) (by omega) hx
    have hp : frameJ (i : Int) x <+: framesJ i (x :: xs) ++ rest := by rw [framesJ, List.append_assoc]; exact List.prefix_append _ _
    have hne : framesJ i (x :: xs) ++ rest ≠ [] := by
      intro e
      have := congrArg List.length e
      rw [framesJ] at this
      simp only [List.length_append, List.length_nil] at this
      have := frameJ_pos (i : Int) x
      omega
    rw [scanJ_yes hne (by rw [hr]; exact hp), hr]
    have e : (framesJ i (x :: xs) ++ rest).drop (frameJ (i : Int) x).length = framesJ (i + 1) xs ++ rest := by
      rw [framesJ, List.append_assoc, List.drop_left]
    rw [e, scanJ_frames xs (i + 1) rest ⟨by omega, fun y hy => h.2 y (.tail _ hy)⟩, List.length_cons, List.cons_append, show i + 1 + xs.length = i + (xs.length + 1) from by omega]
theorem scanJ_at {b : List UInt8} {xs : List (List UInt8)} {k : Nat} (hb : b = framesJ 0 xs ++ b.drop (framesJ 0 xs).length) (h : scanJ xs.length (b.drop (framesJ 0 xs).length) = []) : True := trivial
/-- what the reference finds at the beginning -/
def fstOf (b : List UInt8) : Option (List UInt8) :=
  if (rdRaw b 0).2.2 = 0 then (if (rdU (rdRaw b 0).1 0).2.2 = 0 then (if (rdRaw (rdU (rdRaw b 0).1 0).2.1 0).2.2 = 0 then some (rdRaw (rdU (rdRaw b 0).1 0).2.1 0).1 else none) else none) else none
theorem fstOf_frame {i : Int} {x rest : List UInt8} (h0 : -9223372036854775808 ≤ i) (h1 : i ≤ 9223372036854775807) (hx : x.length ≤ 4611686018427387000) : fstOf (frameJ i x ++ rest) = some x := by
  have hc := coreJ_len h0 h1 (x := x) (by omega)
  have e1 : rdRaw (frameJ i x ++ rest) 0 = (coreJ i x, encU (hashN jl (coreJ i x)) ++ rest, 0) := by
    unfold frameJ; rw [List.append_assoc]; exact rdRaw_enc (by omega) _
  have e2 : rdU (coreJ i x) 0 = (zz i, encR x, 0) := by unfold coreJ; exact rdU_enc (zz_lt h0 h1) _
  have e3 : rdRaw (encR x) 0 = (x, [], 0) := by have := rdRaw_enc (x := x) (by omega) []; rwa [List.append_nil] at this
  unfold fstOf
  rw [e1]
  simp only [e2, e3, if_true]
theorem fst_rec {i : Nat} {b : List UInt8} (hb : b.length ≤ 70368744177664) (hi : i ≤ 9223372036854775807) : (∃ x, fstOf b = some x ∧ frameJ (i : Int) x <+: b) ↔ frameJ (i : Int) (recOf b) <+: b := by
  have hlen : ∀ x, frameJ (i : Int) x <+: b → x.length ≤ 4611686018427387000 := by
    intro x hx
    have h1 := hx.length_le
    unfold frameJ encR coreJ encR at h1
    simp only [List.length_append] at h1
    omega
  constructor
  · rintro ⟨x, _, hx⟩
    obtain ⟨t, ht⟩ := hx
    have := recOf_frame (i := (i : Int)) (x := x) (rest := t) (by omega) (by omega) (hlen x ⟨t, ht⟩)
    rw [ht] at this
    rw [this]
    exact ⟨t, ht⟩
  · intro hx
    refine ⟨recOf b, ?_, hx⟩
    obtain ⟨t, ht⟩ := hx
    have := fstOf_frame (i := (i : Int)) (x := recOf b) (rest := t) (by omega) (by omega) (hlen _ ⟨t, ht⟩)
    rw [ht] at this
    exact this
theorem fst_eq {i : Nat} {b x : List UInt8} (hb : b.length ≤ 70368744177664) (hi : i ≤ 9223372036854775807) (h : fstOf b = some x) (hx : frameJ (i : Int) x <+: b) : x = recOf b := by
  have hlen : x.length ≤ 4611686018427387000 := by
    have h1 := hx.length_le
    unfold frameJ encR coreJ encR at h1
    simp only [List.length_append] at h1
    omega
  obtain ⟨t, ht⟩ := hx
  have := recOf_frame (i := (i : Int)) (x := x) (rest := t) (by omega) (by omega) hlen
  rw [ht] at this
  exact this.symm
theorem rdU_len {l : List UInt8} {e : Int} : (rdU l e).2.1.length ≤ l.length := by
  obtain ⟨p, hp⟩ := rdU_suf (l := l) (e := e)
  have := congrArg List.length hp
  rw [List.length_append] at this; omega
theorem rdRaw_len {l : List UInt8} {e : Int} : (rdRaw l e).1.length ≤ l.length := by
  have := rdU_len (l := l) (e := e)
  unfold rdRaw
  split
  · split
    · show ((rdU l e).2.1.take _).length ≤ _
      rw [List.length_take]; omega
    · exact Nat.zero_le _
  · exact Nat.zero_le _
theorem recOf_len {b : List UInt8} : (recOf b).length ≤ b.length := by
  unfold recOf
  refine Nat.le_trans rdRaw_len (Nat.le_trans rdU_len (Nat.le_trans rdRaw_len ?_))
  rw [List.length_take]; omega
theorem framesJ_len : ∀ (xs : List (List UInt8)) (i : Nat), xs.length ≤ (framesJ i xs).length
  | [], i => by simp
  | x :: xs, i => by
    have := framesJ_len xs (i + 1)
    have := frameJ_pos (i : Int) x
    rw [framesJ, List.length_append, List.length_cons]; omega
theorem framesJ_len2 (xs : List (List UInt8)) (k : Nat) (h : k ≤ xs.length) : k ≤ (framesJ 0 (xs.take k)).length := by
  have := framesJ_len (xs.take k) 0
  rw [List.length_take] at this; omega
theorem range_split {n k : Nat} (h : k < n) : List.range n = List.range k ++ k :: (List.range (n - (k + 1))).map (k + 1 + ·) := by
  have h1 : n = k + (n - k) := by omega
  conv => lhs; rw [h1, List.range_add]
  congr 1
  rw [show n - k = (n - (k + 1)) + 1 from by omega, List.range_succ_eq_map, List.map_cons, List.map_map]
  congr 1
  apply List.map_congr_left
  intro a _
  simp only [Function.comp_apply]; omega
theorem more_byte2 {n : Nat} : B8 ((128 + n % 128) % 256) = .int .u8 ((UInt8.ofNat (128 + n % 128)).toNat : Int) := by
  rw [u8_ofNat (by omega)]; congr 2; omega
theorem zz_neg {n : Int} (h : n < 0) (h0 : -9223372036854775808 ≤ n) : 2 * (u64of (-(n + 1))) + 1 = zz n ∧ 2 * (u64of (-(n + 1))) + 1 < 18446744073709551616 := by
  unfold zz u64of; rw [if_pos h]; omega
theorem zz_pos {n : Int} (h : ¬ n < 0) (h1 : n ≤ 9223372036854775807) : 2 * (u64of n) = zz n ∧ 2 * (u64of n) < 18446744073709551616 := by
  unfold zz u64of; rw [if_neg h]; omega
theorem uz_odd {z : Nat} (h : z % 2 = 1) : -((z / 2 : Nat) : Int) - 1 = uz z := by unfold uz; rw [if_pos h]
theorem uz_even {z : Nat} (h : ¬ z % 2 = 1) : ((z / 2 : Nat) : Int) = uz z := by unfold uz; rw [if_neg h]
/-- the words of a text as cells -/
def wordsV (l : List Nat) : List Value := l.map fun n => U n
theorem wordsV_length (l : List Nat) : (wordsV l).length = l.length := by simp [wordsV]
theorem wordsV_one (l : List Nat) : (wordsV l).all Value.oneCell' = true := by
  rw [List.all_eq_true]; intro v hv; obtain ⟨p, _, rfl⟩ := List.mem_map.1 hv; rfl
theorem wordsV_get {l : List Nat} {i : Nat} (h : i < l.length) : (wordsV l)[((i : Nat) : Int).toNat * 1]? = some (U l[i]) := by
  rw [Int.toNat_natCast, Nat.mul_one, wordsV, List.getElem?_map, List.getElem?_eq_getElem h]; rfl
theorem wordsV_ne {l : List Nat} {i : Nat} (h : i < l.length) : wordsV l ≠ [] := by
  intro e; have h9 := wordsV_length l; rw [e] at h9; simp at h9; omega
theorem wordsV_snoc (l : List Nat) (n : Nat) : wordsV (l ++ [n]) = wordsV l ++ [U n] := by simp [wordsV]
theorem word_down {b : List UInt8} {k m j : Nat} (hj : j < m) (hm : 8 * k + m ≤ b.length) (h8 : m ≤ 8) : 256 * wordN (((b.drop (8 * k)).take m).drop (j + 1)) + b[8 * k + j].toNat = wordN (((b.drop (8 * k)).take m).drop j) ∧ 256 * wordN (((b.drop (8 * k)).take m).drop (j + 1)) + b[8 * k + j].toNat < 18446744073709551616 := by
  have hl : ((b.drop (8 * k)).take m).length = m := word_len hm
  have e : ((b.drop (8 * k)).take m).drop j = b[8 * k + j] :: ((b.drop (8 * k)).take m).drop (j + 1) := by
    rw [List.drop_eq_getElem_cons (by omega)]
    congr 1
    rw [List.getElem_take, List.getElem_drop]
  have e2 : 256 * wordN (((b.drop (8 * k)).take m).drop (j + 1)) + b[8 * k + j].toNat = wordN (((b.drop (8 * k)).take m).drop j) := by
    rw [e, wordN]; omega
  refine ⟨e2, ?_⟩
  rw [e2]
  exact wordN_lt64 (by rw [List.length_drop]; omega)
theorem words_mem_lt {b : List UInt8} {i : Nat} (h : i < (wordsN b).length) : (wordsN b)[i] < 18446744073709551616 := by
  rw [wordsN_get h]; exact wordN_lt64 (by rw [List.length_take]; omega)
theorem tk_step {α : Type} {xs ys : List α} {k : Nat} (h : xs.take k = ys.take k) (h1 : k < xs.length) (h2 : k < ys.length) (e : xs[k] = ys[k]) : xs.take (k + 1) = ys.take (k + 1) := by
  rw [List.take_succ_eq_append_getElem h1, List.take_succ_eq_append_getElem h2, h, e]
theorem tk_ne {α : Type} {xs ys : List α} {k : Nat} (h1 : k < xs.length) (h2 : k < ys.length) (h : xs[k] ≠ ys[k]) : xs ≠ ys := fun e => by subst e; exact h rfl
theorem tk_all {α : Type} {xs ys : List α} {k : Nat} (h : xs.take k = ys.take k) (hk : ¬ k < xs.length) (hl : xs.length = ys.length) : xs = ys := by
  rw [List.take_of_length_le (by omega), List.take_of_length_le (by omega)] at h; exact h
theorem byte_ne {u v : UInt8} (h : (u.toNat : Int) ≠ (v.toNat : Int)) : u ≠ v := fun e => h (by rw [e])
theorem byte_inj {u v : UInt8} (h : (u.toNat : Int) = (v.toNat : Int)) : u = v := UInt8.toNat_inj.1 (by omega)
/-- what the reference's reader keeps -/
def refB (l : List UInt8) (e : Int) : List UInt8 := if (rdU l e).2.2 = 0 then (rdU l e).2.1 else l
def refR (l : List UInt8) (e : Int) : List UInt8 := if (rdRaw l e).2.2 = 0 then (rdRaw l e).2.1 else refB l e
theorem refB_len {l : List UInt8} {e : Int} : (refB l e).length ≤ l.length := by
  unfold refB; split
  · exact rdU_len
  · exact Nat.le_refl _
theorem rdU_at {l : List UInt8} (h : (rdU l 0).2.2 = 0) : refB l 0 = (rdU l 0).2.1 := by unfold refB; rw [if_pos h]
theorem rdRaw_e {l : List UInt8} {e : Int} (h : e ≠ 0) : rdRaw l e = ([], l, e) := by
  unfold rdRaw rdU
  rw [if_neg h]
  simp only
  rw [if_neg h]
theorem fstOf_eq {b : List UInt8} : fstOf b = if (rdRaw b 0).2.2 = 0 ∧ (rdRaw (refB (rdRaw b 0).1 0) (rdU (rdRaw b 0).1 0).2.2).2.2 = 0 then some (rdRaw (refB (rdRaw b 0).1 0) (rdU (rdRaw b 0).1 0).2.2).1 else none := by
  unfold fstOf
  by_cases h1 : (rdRaw b 0).2.2 = 0
  · rw [if_pos h1]
    by_cases h2 : (rdU (rdRaw b 0).1 0).2.2 = 0
    · rw [if_pos h2, rdU_at h2, h2]
      by_cases h3 : (rdRaw (rdU (rdRaw b 0).1 0).2.1 0).2.2 = 0
      · rw [if_pos h3, if_pos ⟨h1, h3⟩]
      · rw [if_neg h3, if_neg (fun h => h3 h.2)]
    · rw [if_neg h2, rdRaw_e h2, if_neg (fun h => h2 h.2)]
  · rw [if_neg h1, if_neg (fun h => h1 h.1)]
def okJ (i : Nat) (b : List UInt8) : Prop := frameJ (i : Int) (recOf b) <+: b
instance (i : Nat) (b : List UInt8) : Decidable (okJ i b) := by unfold okJ; infer_instance
def fstJ (i : Nat) (b : List UInt8) : List UInt8 := if okJ i b then recOf b else []
theorem fstJ_yes {i : Nat} {b : List UInt8} (h : okJ i b) : fstJ i b = recOf b := by unfold fstJ; rw [if_pos h]
theorem fstJ_no {i : Nat} {b : List UInt8} (h : ¬ okJ i b) : fstJ i b = [] := by unfold fstJ; rw [if_neg h]
theorem okJ_of {i : Nat} {b x : List UInt8} (hb : b.length ≤ 70368744177664) (hi : i ≤ 9223372036854775807) (h : fstOf b = some x) (hx : frameJ (i : Int) x <+: b) : okJ i b ∧ x = recOf b := by
  have e := fst_eq hb hi h hx
  refine ⟨?_, e⟩
  unfold okJ; rw [← e]; exact hx
theorem okJ_not {i : Nat} {b x : List UInt8} (hb : b.length ≤ 70368744177664) (hi : i ≤ 9223372036854775807) (h : fstOf b = some x) (hx : ¬ frameJ (i : Int) x <+: b) : ¬ okJ i b := by
  intro h1
  obtain ⟨y, hy, hp⟩ := (fst_rec hb hi).2 h1
  rw [h] at hy
  cases hy
  exact hx hp
theorem okJ_none {i : Nat} {b : List UInt8} (hb : b.length ≤ 70368744177664) (hi : i ≤ 9223372036854775807) (h : fstOf b = none) : ¬ okJ i b := by
  intro h1
  obtain ⟨y, hy, hp⟩ := (fst_rec hb hi).2 h1
  rw [h] at hy
  cases hy
theorem pre_take {f b : List UInt8} (h : f.length ≤ b.length) : decide (f = b.take f.length) = decide (f <+: b) :=
  decide_eq_decide.2 ⟨fun e => by rw [e]; exact List.take_prefix _ _, fun e => List.prefix_iff_eq_take.1 e⟩
theorem u8_wrap (v : Int) : Value.int .u8 (IntKind.u8.wrap v) = .int .u8 ((UInt8.ofNat (v % 256).toNat).toNat : Int) := by
  rw [u8_ofNat (by omega)]
  congr 1
  simp [IntKind.wrap, IntKind.bits, IntKind.signed]
  omega
/-! ### Lists of records in memory -/
abbrev Rc := List UInt8 × RdX
def listV (ps : List Rc) : List Value := ps.map fun p => .slice p.2.oa p.1.length p.2.c
def ownR (e : Nat) (p : Rc) : HP := OwnSl e 1 p.2.oa p.1.length p.2.c (bytesV p.1)
def AllB (ps : List Rc) : Fact := ⟨fun w K => ∀ p, p ∈ ps → ArrAt w K p.2.oa (bytesV p.1), fun h e p hp => (h p hp).mono e⟩
theorem listV_length (ps : List Rc) : (listV ps).length = ps.length := by simp [listV]
theorem listV_one (ps : List Rc) : (listV ps).all Value.oneCell' = true := by
  rw [List.all_eq_true]
  intro v hv
  obtain ⟨p, _, rfl⟩ := List.mem_map.1 hv
  rfl
theorem listV_get {ps : List Rc} {i : Nat} (h : i < ps.length) : (listV ps)[((i : Nat) : Int).toNat * 1]? = some (.slice ps[i].2.oa ps[i].1.length ps[i].2.c) := by
  rw [Int.toNat_natCast, Nat.mul_one, listV, List.getElem?_map, List.getElem?_eq_getElem h]; rfl
theorem listV_ne {ps : List Rc} {i : Nat} (h : i < ps.length) : listV ps ≠ [] := by
  intro e; have h9 := listV_length ps; rw [e] at h9; simp at h9; omega
theorem listV_append (a b : List Rc) : listV (a ++ b) = listV a ++ listV b := by simp [listV]
theorem St.allB_nil {w : World} {M : List HP} {F : List Fact} (h : St w M F) : St w M (AllB [] :: F) := h.addFact (AllB []) (fun K _ p hp => by cases hp)
theorem St.allB_get {w : World} {M : List HP} {F : List Fact} {ps : List Rc} {p : Rc} (hF : AllB ps ∈ F) (hp : p ∈ ps) (h : St w M F) : St w M (ArrF p.2.oa (bytesV p.1) :: F) := h.derive fun K hf => hf _ hF p hp
theorem St.allB_snoc {w : World} {M : List HP} {F : List Fact} {ps : List Rc} {p : Rc} (hF : AllB ps ∈ F) (hp : ArrF p.2.oa (bytesV p.1) ∈ F) (h : St w M F) : St w M (AllB (ps ++ [p]) :: F) := h.derive fun K hf q hq => by
  rcases List.mem_append.1 hq with h1 | h1
  · exact hf _ hF q h1
  · rw [List.mem_singleton.1 h1]; exact hf _ hp
theorem St.keepAll {w : World} {M : List HP} {F : List Fact} {e : Nat} : ∀ {ps : List Rc}, St w (ps.map (ownR e) ++ M) F → (∀ p, p ∈ ps → p.1.length ≤ p.2.c) ∧ St w M (AllB ps :: F)
  | [], h => ⟨fun p hp => absurd hp (by simp), h.allB_nil⟩
  | p :: ps, h => by
    have h0 : St w (OwnSl e 1 p.2.oa p.1.length p.2.c (bytesV p.1) :: (ps.map (ownR e) ++ M)) F := h
    have hlen := h0.ownLen.2
    obtain ⟨h1, h2⟩ := St.keepAll h0.keepSl
    refine ⟨fun q hq => ?_, ?_⟩
    · rcases List.mem_cons.1 hq with e1 | e1
      · rw [e1]; exact hlen
      · exact h1 q e1
    · have h3 := h2.derive (ψ := AllB (p :: ps)) (fun K hf q hq => by
        rcases List.mem_cons.1 hq with e1 | e1
        · rw [e1]; exact hf (ArrF p.2.oa (bytesV p.1)) (.tail _ (.head _))
        · exact hf (AllB ps) (.head _) q e1)
      exact h3.facts (fun φ h => by
        rcases List.mem_cons.1 h with e1 | h
        · subst e1; exact .head _
        · exact .tail _ (.tail _ (.tail _ h)))
/-- a variable that holds a list of records, each one's own -/
def RecsB (T e0 e b : Nat) (xs : List (List UInt8)) : HP := Ex (ι := {z : List Rc × Option Addr × Nat // z.1.map Prod.fst = xs}) fun z => Box b T [.slice z.1.2.1 z.1.1.length z.1.2.2] :: OwnSl e0 1 z.1.2.1 z.1.1.length z.1.2.2 (listV z.1.1) :: z.1.1.map (ownR e)
theorem St.recsNew {w : World} {M : List HP} {F : List Fact} {T e0 e b : Nat} (h : St w (Box b T [.slice none 0 0] :: M) F) : St w (RecsB T e0 e b [] :: M) F :=
  St.exClose (⟨([], none, 0), rfl⟩ : {z : List Rc × Option Addr × Nat // z.1.map Prod.fst = []}) ((OwnSl.nil_new e0 1 h).swap)
structure LsX where
  ps : List Rc
  oa : Option Addr
  c : Nat
/-! ### What a yield of a record hands over -/
def recEnc (xs : List (List UInt8)) : Nat → List Value → Prop := fun k args => ∃ r : RdX, args = [.slice r.oa (xs.getD k []).length r.c, I ((framesJ 0 (xs.take (k + 1))).length : Nat)]
theorem recEnc_len (xs : List (List UInt8)) (k : Nat) (args : List Value) (h : recEnc xs k args) : args.length = 2 := by obtain ⟨r, rfl⟩ := h; rfl
def recOwn (e : Nat) (xs : List (List UInt8)) : Nat → List Value → List HP := fun k args => match args with
  | [.slice oa n c, _] => [OwnSl e 1 oa n c (bytesV (xs.getD k []))]
  | _ => []
theorem range_pre {n k : Nat} {pre suf : List Nat} (h : List.range n = pre ++ k :: suf) : pre.length = k ∧ k < n := by
  have h1 : (List.range n)[pre.length]? = some k := by rw [h, List.getElem?_append_right (Nat.le_refl _)]; simp
  have h2 := List.getElem?_eq_some_iff.1 h1
  obtain ⟨h3, h4⟩ := h2
  rw [List.getElem_range] at h4
  rw [List.length_range] at h3
  exact ⟨h4, by omega⟩
theorem getD_get {xs : List (List UInt8)} {k : Nat} (h : k < xs.length) : xs.getD k [] = xs[k] := by rw [List.getD_eq_getElem?_getD, List.getElem?_eq_getElem h]; rfl
/-! ### Bounds of several kinds -/
section
variable {P : Program} {r : Option Nat} {N : Nat} {ops : Array Oper} {rest : List Oper} {Q : Exit → Act → World → Prop} {E : Env} {ds : List Deferred} {M : List HP} {F : List Fact}
variable {d : Nat} {ty : TypeId} {pos : String} {aft : Array Edge} {gd : Option (Nat × Bool)}
theorem RL.minU {x y : Operand} {a b : Nat} {aty : Array TypeId} (hg : wantedG ops E gd = some true) (hx : evalO E x = some (U a)) (hy : evalO E y = some (U b)) (hN : Nat.ble (d + 1) N = true) (k : RL P r N ops rest Q ((d, U (Min.min a b)) :: E) ds M F) : RL P r N ops (⟨some d, .call ⟨.builtin .min, #[x, y], aty⟩, ty, pos, aft, gd⟩ :: rest) Q E ds M F :=
  RL.min hg hx hy hN (by
    have e : Min.min (a : Int) (b : Int) = ((Min.min a b : Nat) : Int) := by omega
    rw [e]; exact k)
theorem RL.sliceToU {T e : TypeId} {x : Operand} {o : Operand} {oa : Option Addr} {n cap size h : Nat} {ik : IntKind} (hg : wantedG ops E gd = some true) (ht : tySlice P T e = true) (hz : tySize P e size = true) (hx : evalO E x = some (.slice oa n cap))
    (ho : evalO E o = some (.int ik (h : Int))) (h2 : h ≤ cap) (hN : Nat.ble (d + 1) N = true) (k : RL P r N ops rest Q ((d, .slice (cutA oa 0 cap size) h cap) :: E) ds M F) : RL P r N ops (⟨some d, .slice T x none (some o) none, ty, pos, aft, gd⟩ :: rest) Q E ds M F :=
  RL.val rfl hg hN (fun ρ hρ w _ => by
    simp [execOp, hρ _ _ hx, hρ _ _ ho, Instr.sliceAt, Instr.slice, Instr.sliceBounds, Instr.sliceBound, asIntOf, run_underlying (run_tySlice ht), run_sizeOf' hz, h2, cutA]) k
/-- a slice of bytes cut, and what is then known -/
theorem RL.sliceFromB {T e : TypeId} {x o : Operand} {oa : Option Addr} {cap k : Nat} {ik : IntKind} {l : List UInt8} (hg : wantedG ops E gd = some true) (ht : tySlice P T e = true) (hz : tySize P e 1 = true) (hx : evalO E x = some (.slice oa l.length cap))
    (ho : evalO E o = some (.int ik (k : Int))) (hk : k ≤ l.length) (hc : l.length ≤ cap) (hF : ArrF oa (bytesV l) ∈ F) (hN : Nat.ble (d + 1) N = true) (kk : RL P r N ops rest Q ((d, .slice (cutA oa k cap 1) (l.drop k).length (cap - k)) :: E) ds M (ArrF (cutA oa k cap 1) (bytesV (l.drop k)) :: F)) : RL P r N ops (⟨some d, .slice T x (some o) none none, ty, pos, aft, gd⟩ :: rest) Q E ds M F := by
  refine RL.weak (fun w hw => hw.cutB k hk hc hF) ?_
  refine RL.val rfl hg hN (fun ρ hρ w _ => ?_) kk
  have h4 : ¬ l.length < k := by omega
  rw [List.length_drop]
  simp [execOp, hρ _ _ hx, hρ _ _ ho, Instr.sliceAt, Instr.slice, Instr.sliceBounds, Instr.sliceBound, asIntOf, run_underlying (run_tySlice ht), run_sizeOf' hz, hk, cutA]
theorem RL.sliceToB {T e : TypeId} {x o : Operand} {oa : Option Addr} {cap k : Nat} {v : Int} {ik : IntKind} {l : List UInt8} (hg : wantedG ops E gd = some true) (ht : tySlice P T e = true) (hz : tySize P e 1 = true) (hx : evalO E x = some (.slice oa l.length cap))
    (ho : evalO E o = some (.int ik v)) (hv : v = ((l.take k).length : Int)) (hc : l.length ≤ cap) (hF : ArrF oa (bytesV l) ∈ F) (hN : Nat.ble (d + 1) N = true) (kk : RL P r N ops rest Q ((d, .slice (cutA oa 0 cap 1) (l.take k).length cap) :: E) ds M (ArrF (cutA oa 0 cap 1) (bytesV (l.take k)) :: F)) : RL P r N ops (⟨some d, .slice T x none (some o) none, ty, pos, aft, gd⟩ :: rest) Q E ds M F := by
  subst hv
  refine RL.weak (fun w hw => hw.cutT k hc hF) ?_
  exact RL.sliceToU hg ht hz hx ho (by rw [List.length_take]; omega) hN kk
theorem NX.retM2 {N : Nat} {fn : Func} {t u D : Nat} {v v' : Value} {ι : Type} {val : ι → Value} {M' : ι → List HP} {F' : ι → List Fact} (j : Nat) (i : ι) (hr : fn.results = #[.tmp t, .tmp u]) (ht : look E t = some v) (hu : look E u = some v') (hD : M[j]? = some (Pts D (.deferred (some [])))) (hv : .tuple #[v, v'] = val i) (hS : ∀ w, St w (M.eraseIdx j) F → St w (M' i) (F' i)) :
    NX N .ret (bodyPostM (Wd none) 0 P fn (Post val M' F')) E [{ target := .collected D, args := #[] }] M F := fun a w ha hw => by
  show LeavesInM _ _ _ _ _ _ a.defers .returning w
  rw [ha.defers]
  have hd := hw.heap hD
  refine ⟨by simp, .inl ⟨D, _, rfl, run_takeDeferred hd, .tuple #[v, v'], ?_, i, by rw [hv], hS _ ?_⟩⟩
  · rw [results_tmp2 hr]; simp [ha.get t v ht, ha.get u v' hu]
  · have h1 := hw.putObj (o' := .deferred none) hD
    have h2 : (M.set j (Pts D (.deferred none)))[j]? = some (Pts D (.deferred none)) := by
      rw [List.getElem?_set_self (List.getElem?_eq_some_iff.1 hD).1]
    have h3 := h1.drop j h2
    rwa [List.eraseIdx_set_eq] at h3
end
theorem St.recsSnoc {w : World} {M : List HP} {F : List Fact} {T e0 e b c : Nat} {oa : Option Addr} {ps : List Rc} {xs : List (List UInt8)} {x : List UInt8} {r : RdX} (hx : ps.map Prod.fst = xs)
    (h : St w (Box b T [.slice oa (ps.length + 1) c] :: OwnSl e0 1 oa (ps.length + 1) c (listV ps ++ [.slice r.oa x.length r.c]) :: (ps.map (ownR e) ++ (OwnSl e 1 r.oa x.length r.c (bytesV x) :: M))) F) : St w (RecsB T e0 e b (xs ++ [x]) :: M) F := by
  refine St.exClose (⟨(ps ++ [(x, r)], oa, c), by rw [List.map_append, hx]; rfl⟩ : {z : List Rc × Option Addr × Nat // z.1.map Prod.fst = xs ++ [x]}) ?_
  show St w ((Box b T [.slice oa (ps ++ [(x, r)]).length c] :: OwnSl e0 1 oa (ps ++ [(x, r)]).length c (listV (ps ++ [(x, r)])) :: (ps ++ [(x, r)]).map (ownR e)) ++ M) F
  rw [List.length_append, listV_append, List.map_append]
  have e1 : (Box b T [.slice oa (ps.length + [(x, r)].length) c] :: OwnSl e0 1 oa (ps.length + [(x, r)].length) c (listV ps ++ listV [(x, r)]) :: (ps.map (ownR e) ++ [(x, r)].map (ownR e))) ++ M = Box b T [.slice oa (ps.length + 1) c] :: OwnSl e0 1 oa (ps.length + 1) c (listV ps ++ [.slice r.oa x.length r.c]) :: (ps.map (ownR e) ++ (OwnSl e 1 r.oa x.length r.c (bytesV x) :: M)) := by
    simp only [List.cons_append, List.append_assoc]; rfl
  rw [e1]
  exact h
theorem St.recsOpen {w : World} {M : List HP} {F : List Fact} {T e0 e b : Nat} {xs : List (List UInt8)} (h : St w (RecsB T e0 e b xs :: M) F) : ∃ z : LsX, (z.ps.map Prod.fst = xs ∧ ∀ p, p ∈ z.ps → p.1.length ≤ p.2.c) ∧ St w (Box b T [.slice z.oa z.ps.length z.c] :: OwnSl e0 1 z.oa z.ps.length z.c (listV z.ps) :: M) (AllB z.ps :: F) := by
  obtain ⟨⟨⟨ps, oa, c⟩, hx⟩, h1⟩ := h.exOpen
  have h2 : St w (Box b T [.slice oa ps.length c] :: OwnSl e0 1 oa ps.length c (listV ps) :: (ps.map (ownR e) ++ M)) F := h1
  have h3 : St w (ps.map (ownR e) ++ (Box b T [.slice oa ps.length c] :: OwnSl e0 1 oa ps.length c (listV ps) :: M)) F := h2.perm (by
    refine List.Perm.trans ?_ (perm_mid [Box b T [.slice oa ps.length c], OwnSl e0 1 oa ps.length c (listV ps)] (ps.map (ownR e)) M)
    exact List.Perm.refl _)
  obtain ⟨h4, h5⟩ := h3.keepAll
  exact ⟨⟨ps, oa, c⟩, ⟨hx, h4⟩, h5⟩
end Go.GL
