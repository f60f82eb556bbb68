/- Lemmas and walks for the proof of DurJ: texts one behind the other. No condition. -/
import Derived.Test.YtdnjoffkanjjhaaPdrd
namespace Go.GL
set_option linter.unusedVariables false
section
variable (B : Nat → List UInt8) (D : Nat → Nat) (ks : List Int) (fl : Int)
def mixB (i n : Nat) : List UInt8 := if n ∈ (filesB B).take i then cutB B D ks n else B n
def looseT (i : Nat) : List (Nat × Nat) := ((filesB B).take i).flatMap fun n => (List.range' (D n) ((cutB B D ks n).length - D n)).map fun j => (n, j)
def atF : Int := if 0 ≤ fl ∧ 0 < (looseB B D ks).length then ((fl.toNat % (8 * (looseB B D ks).length) : Nat) : Int) else -1
def midB (j n : Nat) : List UInt8 := if 0 ≤ atF B D ks fl ∧ (atF B D ks fl).toNat / 8 < j then crashB B D ks fl n else cutB B D ks n
end
section
variable {B : Nat → List UInt8} {D : Nat → Nat} {ks : List Int} {fl : Int}
theorem mixB_zero : mixB B D ks 0 = B := funext fun n => if_neg (by simp)
theorem fresh_file {i : Nat} (hi : i < (filesB B).length) : (filesB B)[i] ∉ (filesB B).take i := by
  intro hm
  obtain ⟨j, hj, e⟩ := List.getElem_of_mem hm
  rw [List.length_take] at hj
  rw [List.getElem_take] at e
  have h1 := nodup_inj (filesB_nodup B) _ _ e
  omega
theorem mixB_at {i : Nat} (hi : i < (filesB B).length) : mixB B D ks i (filesB B)[i] = B (filesB B)[i] := if_neg (fresh_file hi)
theorem mixB_succ {i : Nat} (hi : i < (filesB B).length) : mixB B D ks (i + 1) = upd (mixB B D ks i) (filesB B)[i] (cutB B D ks (filesB B)[i]) := funext fun n => by
  show (if n ∈ (filesB B).take (i + 1) then cutB B D ks n else B n) = if n = (filesB B)[i] then cutB B D ks (filesB B)[i] else if n ∈ (filesB B).take i then cutB B D ks n else B n
  rw [List.take_succ_eq_append_getElem hi]
  by_cases e : n = (filesB B)[i]
  · rw [if_pos e, if_pos (by rw [e]; exact List.mem_append.2 (.inr (List.mem_singleton.2 rfl))), e]
  · rw [if_neg e]
    by_cases h : n ∈ (filesB B).take i
    · rw [if_pos h, if_pos (List.mem_append.2 (.inl h))]
    · rw [if_neg h, if_neg (fun h2 => (List.mem_append.1 h2).elim h (fun h3 => e (List.mem_singleton.1 h3)))]
theorem nil_of_not {n : Nat} (hn : n < 64) (h : n ∉ filesB B) : B n = [] := by
  by_cases e : B n = []
  · exact e
  · exact absurd (filesB_mem.2 ⟨hn, e⟩) h
theorem mixB_all {n : Nat} (hn : n < 64) : mixB B D ks (filesB B).length n = cutB B D ks n := by
  unfold mixB
  rw [List.take_length]
  by_cases h : n ∈ filesB B
  · rw [if_pos h]
  · rw [if_neg h]
    have := nil_of_not hn h
    unfold cutB; rw [this]; simp
theorem looseT_all : looseT B D ks (filesB B).length = looseB B D ks := by unfold looseT looseB; rw [List.take_length]
theorem looseT_succ {i : Nat} (hi : i < (filesB B).length) : looseT B D ks (i + 1) = looseT B D ks i ++ (List.range' (D (filesB B)[i]) ((cutB B D ks (filesB B)[i]).length - D (filesB B)[i])).map fun j => ((filesB B)[i], j) := by
  unfold looseT
  rw [List.take_succ_eq_append_getElem hi, List.flatMap_append]
  simp
theorem looseT_len {i : Nat} (hi : i < (filesB B).length) : (looseT B D ks (i + 1)).length = (looseT B D ks i).length + ((cutB B D ks (filesB B)[i]).length - D (filesB B)[i]) := by
  rw [looseT_succ hi, List.length_append, List.length_map, List.length_range']
theorem looseT_mono {i j : Nat} (h : i ≤ j) : (looseT B D ks i).length ≤ (looseT B D ks j).length := by
  unfold looseT
  have e : (filesB B).take i = ((filesB B).take j).take i := by rw [List.take_take, Nat.min_eq_left h]
  conv => rhs; rw [← List.take_append_drop i ((filesB B).take j)]
  rw [List.flatMap_append, List.length_append, e]
  simp
theorem loose_at {i k : Nat} (hi : i < (filesB B).length) (h1 : D (filesB B)[i] ≤ k) (h2 : k < (cutB B D ks (filesB B)[i]).length) : (looseB B D ks)[(looseT B D ks i).length + (k - D (filesB B)[i])]? = some ((filesB B)[i], k) := by
  have e : looseB B D ks = looseT B D ks (i + 1) ++ ((filesB B).drop (i + 1)).flatMap fun n => (List.range' (D n) ((cutB B D ks n).length - D n)).map fun j => (n, j) := by
    unfold looseB looseT
    rw [← List.flatMap_append, List.take_append_drop]
  rw [e, List.getElem?_append_left (by rw [looseT_len hi]; omega), looseT_succ hi, List.getElem?_append_right (by omega)]
  rw [show (looseT B D ks i).length + (k - D (filesB B)[i]) - (looseT B D ks i).length = k - D (filesB B)[i] by omega, List.getElem?_map, List.getElem?_range' (by omega)]
  simp; omega
theorem atF_lt (h : 0 ≤ atF B D ks fl) : (atF B D ks fl).toNat / 8 < (looseB B D ks).length := by
  unfold atF at *
  split at h
  · rename_i hc
    rw [if_pos hc, Int.toNat_natCast]
    have := Nat.mod_lt fl.toNat (show 8 * (looseB B D ks).length > 0 by omega)
    omega
  · omega
theorem atF_ge : -1 ≤ atF B D ks fl := by unfold atF; split <;> omega
theorem atF_eq (h : 0 ≤ atF B D ks fl) : 0 ≤ fl ∧ (atF B D ks fl).toNat = fl.toNat % (8 * (looseB B D ks).length) := by
  unfold atF at *
  split at h
  · rename_i hc
    rw [if_pos hc]; exact ⟨hc.1, Int.toNat_natCast _⟩
  · omega
theorem midB_zero {n : Nat} : midB B D ks fl 0 n = cutB B D ks n := if_neg (by omega)
theorem midB_end {n : Nat} : midB B D ks fl (looseB B D ks).length n = crashB B D ks fl n := by
  unfold midB
  by_cases h : 0 ≤ atF B D ks fl
  · rw [if_pos ⟨h, atF_lt h⟩]
  · rw [if_neg (fun e => h e.1)]
    by_cases h0 : fl < 0
    · rw [crashB_calm _ _ _ _ _ h0]
    · have hl : ¬ 0 < (looseB B D ks).length := fun hl => h (by unfold atF; rw [if_pos ⟨by omega, hl⟩]; omega)
      have he : looseB B D ks = [] := List.eq_nil_of_length_eq_zero (by omega)
      unfold crashB
      rw [if_neg h0, he]; rfl
theorem midB_len {j n : Nat} : (midB B D ks fl j n).length = (cutB B D ks n).length := by
  unfold midB; split
  · exact crashB_len _ _ _ _ _
  · rfl
theorem midB_skip {j : Nat} {a : Int} (ha : a = atF B D ks fl - 8 * j) (h : ¬ (0 ≤ a ∧ a < 8)) : midB B D ks fl (j + 1) = midB B D ks fl j := funext fun n => by
  unfold midB
  by_cases h0 : 0 ≤ atF B D ks fl
  · by_cases h1 : (atF B D ks fl).toNat / 8 < j
    · rw [if_pos ⟨h0, by omega⟩, if_pos ⟨h0, h1⟩]
    · rw [if_neg (fun e => by have := e.2; omega), if_neg (fun e => h1 e.2)]
  · rw [if_neg (fun e => h0 e.1), if_neg (fun e => h0 e.1)]
theorem midB_flip {i k : Nat} {a : Int} (hi : i < (filesB B).length) (h1 : D (filesB B)[i] ≤ k) (h2 : k < (cutB B D ks (filesB B)[i]).length) (ha : a = atF B D ks fl - 8 * ((looseT B D ks i).length + (k - D (filesB B)[i]) : Nat)) (h0 : 0 ≤ a) (h8 : a < 8) :
    midB B D ks fl ((looseT B D ks i).length + (k - D (filesB B)[i])) = cutB B D ks ∧ midB B D ks fl ((looseT B D ks i).length + (k - D (filesB B)[i]) + 1) = upd (cutB B D ks) (filesB B)[i] (turnB (cutB B D ks (filesB B)[i]) k a.toNat) := by
  have hat : 0 ≤ atF B D ks fl := by omega
  obtain ⟨hf, he⟩ := atF_eq hat
  have hd : (atF B D ks fl).toNat / 8 = (looseT B D ks i).length + (k - D (filesB B)[i]) := by omega
  refine ⟨funext fun n => if_neg (fun e => by have := e.2; omega), funext fun n => ?_⟩
  unfold midB
  rw [if_pos ⟨hat, by omega⟩]
  unfold crashB
  rw [if_neg (by omega), ← he, hd, loose_at hi h1 h2]
  show (if n = (filesB B)[i] then turnB (cutB B D ks n) k _ else _) = upd _ _ _ n
  unfold upd
  by_cases e : n = (filesB B)[i]
  · rw [if_pos e, if_pos e, e, show (atF B D ks fl).toNat % 8 = a.toNat by omega]
  · rw [if_neg e, if_neg e]
theorem cut_fi {i : Nat} (hi : i < (filesB B).length) : cutB B D ks (filesB B)[i] = (B (filesB B)[i]).take (D (filesB B)[i] + keepK ks i ((B (filesB B)[i]).length - D (filesB B)[i])) := by
  unfold cutB; rw [idx_files hi]
end
def rowsL (fs : List Nat) (B : Nat → List UInt8) (x : Nat → RdX) : List Rc := fs.map fun n => (B n, x n)
theorem rowsL_len (fs : List Nat) (B : Nat → List UInt8) (x : Nat → RdX) : (rowsL fs B x).length = fs.length := by simp [rowsL]
theorem rowsL_cg {fs : List Nat} {B B' : Nat → List UInt8} {x x' : Nat → RdX} (h : ∀ n, n ∈ fs → B n = B' n ∧ x n = x' n) : rowsL fs B x = rowsL fs B' x' := List.map_congr_left fun n hn => by rw [(h n hn).1, (h n hn).2]
theorem rowsL_snoc (fs : List Nat) (n : Nat) (B : Nat → List UInt8) (x : Nat → RdX) : rowsL (fs ++ [n]) B x = rowsL fs B x ++ [(B n, x n)] := by simp [rowsL]
theorem listV_cg {B B' : Nat → List UInt8} {x : Nat → RdX} (h : ∀ n, n < 64 → (B n).length = (B' n).length) : listV (rowsF B x) = listV (rowsF B' x) := by
  unfold listV rowsF
  rw [List.map_map, List.map_map]
  refine List.map_congr_left fun n hn => ?_
  show Value.slice _ (B n).length _ = Value.slice _ (B' n).length _
  rw [h n (List.mem_range.1 hn)]
theorem natI_get {l : List Nat} {i : Nat} (h : i < l.length) : (ints (natI l))[((i : Nat) : Int).toNat * 1]? = some (I (l[i] : Nat)) := by
  have h1 : i < (natI l).length := by rw [natI_len]; exact h
  rw [Nat.mul_one, Int.toNat_natCast, ints_get h1]
  simp [natI]
theorem natI_ne {l : List Nat} {i : Nat} (h : i < l.length) : ints (natI l) ≠ [] := ints_ne (by rw [natI_len]; omega)
theorem St.allB_files {w : World} {M : List HP} {F : List Fact} {B B' : Nat → List UInt8} {x : Nat → RdX} (hA : AllB (rowsL (filesB B) B' x) ∈ F) (h0 : ∀ n, n < 64 → B n = [] → B' n = []) (h : St w M F) : St w M (AllB (rowsF B' x) :: F) := h.derive fun K hf p hp => by
  obtain ⟨n, hn, rfl⟩ := List.mem_map.1 hp
  have hn2 := List.mem_range.1 hn
  by_cases e : n ∈ filesB B
  · exact hf _ hA (B' n, x n) (List.mem_map.2 ⟨n, e, rfl⟩)
  · have := h0 n hn2 (nil_of_not hn2 e)
    rw [this]; exact .inl rfl
theorem RfOk.crash {s : Rf} {ks : List Int} {fl : Int} {X : Nat → RdX} (h : RfOk s) (hc : ∀ n, n < 64 → (crashB s.a.B s.a.D ks fl n).length ≤ (X n).c) : RfOk { s with a := crashA s.a ks fl, x := X, pl := -1 } :=
  ⟨rfl, (by decide : (-2 : Int) ≤ -1), (by decide : (-1 : Int) ≤ 4611686018427387904), fun _ _ => Nat.le_refl _, hc, Nat.le_trans (usedT_le (i := 64) (fun n _ => by show (crashB _ _ _ _ n).length ≤ _; rw [crashB_len]; exact cutB_len _ _ _ _) (Nat.le_refl _)) h.us, h.rm⟩
theorem turn_store {b : List UInt8} {u q : Nat} (hu : u < b.length) : (bytesV b).take (0 + ((u : Nat) : Int).toNat * 1) ++ [B8 (b[u].toNat ^^^ (1 * 2 ^ (7 - q) % 256))] ++ (bytesV b).drop (0 + ((u : Nat) : Int).toNat * 1 + 1) = bytesV (turnB b u q) := by
  rw [Nat.zero_add, Nat.mul_one, Int.toNat_natCast, splice_set _ _ _ (by rw [bytesV_length]; exact hu)]
  unfold turnB flipB bytesV
  rw [List.map_set]
  congr 1
  have h1 : 2 ^ (7 - q) < 256 := Nat.lt_of_le_of_lt (Nat.pow_le_pow_right (by decide) (show 7 - q ≤ 7 by omega)) (by decide)
  have h2 : b[u].toNat ^^^ 2 ^ (7 - q) < 2 ^ 8 := Nat.xor_lt_two_pow (UInt8.toNat_lt _) h1
  rw [Nat.one_mul, Nat.mod_eq_of_lt h1, List.getD_eq_getElem?_getD, List.getElem?_eq_getElem hu, Option.getD_some]
  show Value.int .u8 _ = Value.int .u8 _
  rw [UInt8.toNat_ofNat', Nat.mod_eq_of_lt h2]
theorem rowsL_put {fs : List Nat} {B : Nat → List UInt8} {x : Nat → RdX} {e i : Nat} (hi : i < fs.length) (hn : fs.Nodup) (v : List UInt8) :
    ((rowsL fs B x).map (ownR e)).take i ++ OwnSl e 1 (x fs[i]).oa v.length (x fs[i]).c (bytesV v) :: ((rowsL fs B x).map (ownR e)).drop (i + 1) = (rowsL fs (upd B fs[i] v) x).map (ownR e) := by
  have hl : i < ((rowsL fs B x).map (ownR e)).length := by rw [List.length_map, rowsL_len]; exact hi
  have h1 : ((rowsL fs B x).map (ownR e)).take i ++ OwnSl e 1 (x fs[i]).oa v.length (x fs[i]).c (bytesV v) :: ((rowsL fs B x).map (ownR e)).drop (i + 1) = ((rowsL fs B x).map (ownR e)).set i (ownR e (v, x fs[i])) := by
    rw [List.set_eq_take_append_cons_drop, if_pos hl]; rfl
  rw [h1]
  refine List.ext_getElem (by simp [rowsL]) fun j h2 h3 => ?_
  have hj : j < fs.length := by simpa [rowsL] using h3
  rw [List.getElem_set]
  simp only [rowsL, List.getElem_map]
  unfold upd
  by_cases e2 : i = j
  · subst e2; simp
  · rw [if_neg e2, if_neg (fun e3 => e2 (nodup_inj hn _ _ e3.symm))]
theorem rowsL_at {fs : List Nat} {B : Nat → List UInt8} {x : Nat → RdX} {e i : Nat} (hi : i < ((rowsL fs B x).map (ownR e)).length) (h2 : i < fs.length) : ((rowsL fs B x).map (ownR e))[i] = OwnSl e 1 (x fs[i]).oa (B fs[i]).length (x fs[i]).c (bytesV (B fs[i])) := by
  rw [List.getElem_map]
  simp [rowsL, ownR]
end Go.GL

namespace Go.Proofs.Ytdnjoffkanjjhaa
open Go.GL
set_option linter.unusedVariables false
theorem eb_ni27 : noInt Try.prog 27 = true := by kernel_rfl
theorem eb_te5 : tyElem Try.prog 5 1 1 = true := by kernel_rfl
theorem eb_tf58_1 : fieldOff Try.prog 58 1 1 = true := by kernel_rfl
theorem eb_tf58_2 : fieldOff Try.prog 58 2 2 = true := by kernel_rfl
theorem eb_tf58_3 : fieldOff Try.prog 58 3 3 = true := by kernel_rfl
theorem eb_tf58_4 : fieldOff Try.prog 58 4 4 = true := by kernel_rfl
theorem eb_ti3 : tyInt Try.prog 3 .i64 = true := by kernel_rfl
theorem eb_ti75 : tyInt Try.prog 75 .u64 = true := by kernel_rfl
theorem eb_tl22 : tySlice Try.prog 22 27 = true := by kernel_rfl
theorem eb_tl27 : tySlice Try.prog 27 5 = true := by kernel_rfl
theorem eb_tl33 : tySlice Try.prog 33 3 = true := by kernel_rfl
theorem eb_ts22 : tyScalar Try.prog 22 = true := by kernel_rfl
theorem eb_ts27 : tyScalar Try.prog 27 = true := by kernel_rfl
theorem eb_ts3 : tyScalar Try.prog 3 = true := by kernel_rfl
theorem eb_ts33 : tyScalar Try.prog 33 = true := by kernel_rfl
theorem eb_ts4 : tyScalar Try.prog 4 = true := by kernel_rfl
theorem eb_ts5 : tyScalar Try.prog 5 = true := by kernel_rfl
theorem eb_tz27 : tySize Try.prog 27 1 = true := by kernel_rfl
theorem eb_tz3 : tySize Try.prog 3 1 = true := by kernel_rfl
theorem eb_tz5 : tySize Try.prog 5 1 = true := by kernel_rfl
structure CsX where
  i : Nat
  X : Nat → RdX

set_option maxHeartbeats 4000000 in
theorem rcrash_spec {ks : List Int} {fl : Int} {ok : Option Addr} {ck : Nat} {b : Nat} {s : Rf} {M : List HP} {F : List Fact} (h : RfOk s) (hA : AllB (rowsF s.a.B s.x) ∈ F) (hK : ArrF ok (ints ks) ∈ F) (hks : IntsOk ks) (hfl : I64 fl) : Ctr Try.prog 42 [.pointer (some ⟨b, 0, none⟩), .slice ok ks.length ck, I fl] (Box b 58 (rfC (s)) :: OwnSl 27 1 (s).ba 64 64 (listV (rowsF (s).a.B (s).x)) :: OwnSl 3 1 (s).fa 64 64 (ints (firmF (s).a.D)) :: M) F {q : Rf // RfOk q ∧ q.a = crashA s.a ks fl} (fun _ => .tuple #[]) (fun q => Box b 58 (rfC (q.1)) :: OwnSl 27 1 (q.1).ba 64 64 (listV (rowsF (q.1).a.B (q.1).x)) :: OwnSl 3 1 (q.1).fa 64 64 (ints (firmF (q.1).a.D)) :: M) (fun q => AllB (rowsF q.1.a.B q.1.x) :: F) := by
  refine Ctr.body Try.func42 rfl rfl ?_
  refine TR.seq ?_
  refine TR.openP (fun w hw => own_at (i := 1) (M := _ :: _ :: _ :: M) rfl (rowsF_ne _ _) hw) (fun gb hb => ?_)
  refine TR.openP (fun w hw => own_at (i := 2) (M := _ :: _ :: _ :: M) rfl (firmF_ne _) hw) (fun gf hf => ?_)
  refine TR.region ?_
  refine RL.move rfl rfl rfl ?_
  refine RL.call rfl rfl Try.call45 rfl (rfiles_spec) (fun z0 => ?_)
  refine RL.weak (fun w hw => hw.keepSl) ?_
  refine RL.assign rfl rfl rfl ?_
  refine RL.nil ?_
  refine NX.seq ?_
  refine TR.seq ?_
  refine TR.region ?_
  refine RL.assign rfl rfl rfl ?_
  refine RL.nil ?_
  refine NX.seq ?_
  refine TR.seq ?_
  refine TR.seq ?_
  refine TR.region ?_
  refine RL.assign rfl rfl rfl ?_
  refine RL.nil ?_
  refine NX.seq ?_
  refine TR.block ?_
  refine TR.loopP (ι := CsX) (fun x => x.i ≤ (filesB s.a.B).length ∧ (∀ n, n ∉ (filesB s.a.B).take x.i → x.X n = s.x n) ∧ (looseT s.a.B s.a.D ks x.i).length ≤ x.i * 16777216) (fun x => [(0, .pointer (some ⟨b, 0, none⟩)), (1, .slice ok ks.length ck), (2, I fl), (6, .slice z0.1 (filesB s.a.B).length z0.2), (7, I ((looseT s.a.B s.a.D ks x.i).length : Nat)), (8, I (x.i : Nat))]) (fun x => Al ((rowsL ((filesB s.a.B).take x.i) (cutB s.a.B s.a.D ks) x.X).map (ownR 5)) :: Box b 58 (rfC s) :: OwnSl 27 1 s.ba 64 64 (listV (rowsF (mixB s.a.B s.a.D ks x.i) x.X)) :: OwnSl 3 1 s.fa 64 64 (ints (firmF s.a.D)) :: M) (fun x => ArrF z0.1 (ints (natI (filesB s.a.B))) :: F) (fun x => (filesB s.a.B).length - x.i) ⟨0, s.x⟩ ⟨Nat.zero_le _, fun _ _ => rfl, Nat.zero_le _⟩ ⟨rfl, rfl, rfl, rfl, rfl, rfl, trivial⟩ (fun w hw => (by simp only [mixB_zero]; exact St.alNil hw)) (fun x hx => ?_)
  refine TR.seq ?_
  refine TR.seq ?_
  refine TR.region ?_
  refine RL.move rfl rfl rfl ?_
  refine RL.move rfl rfl rfl ?_
  refine RL.lenSlice rfl eb_tl33 rfl rfl ?_
  refine RL.bin rfl rfl rfl BinV.lss rfl ?_
  refine RL.nil ?_
  refine NX.seq ?_
  refine TR.cond rfl (fun h1 => ?_) (fun h1 => ?_)
  · skip
    have hi : x.i < (filesB s.a.B).length := by have := of_decide_eq_true h1; omega
    have hfl64 := filesB_len s.a.B
    obtain ⟨f, hff⟩ : ∃ f, f = (filesB s.a.B)[x.i]'hi := ⟨_, rfl⟩
    have hf64 : f < 64 := by rw [hff]; exact (filesB_mem.1 (List.getElem_mem hi)).1
    have hrl := used_one (B := s.a.B) hf64
    have hus := h.us
    have hrm := h.rm
    have hde := h.le f hf64
    have hcp := h.cp f hf64
    have hcl := cutB_len s.a.B s.a.D ks f
    have hcut : (cutB s.a.B s.a.D ks) f = (s.a.B f).take (s.a.D f + keepK ks x.i ((s.a.B f).length - s.a.D f)) := by rw [hff]; exact cut_fi hi
    have hkl := keepK_le ks x.i ((s.a.B f).length - s.a.D f)
    have hcle : ((cutB s.a.B s.a.D ks) f).length = s.a.D f + keepK ks x.i ((s.a.B f).length - s.a.D f) := by rw [hcut, List.length_take, Nat.min_eq_left (by omega)]
    have hll : (looseT s.a.B s.a.D ks (x.i + 1)).length = (looseT s.a.B s.a.D ks x.i).length + keepK ks x.i ((s.a.B f).length - s.a.D f) := by rw [looseT_len hi, ← hff]; omega
    have hlo := hx.2.2
    have hXf : x.X f = s.x f := hx.2.1 f (by rw [hff]; exact fresh_file hi)
    have hmf : (mixB s.a.B s.a.D ks x.i) f = s.a.B f := by rw [hff]; exact mixB_at hi
    have hget : (listV (rowsF (mixB s.a.B s.a.D ks x.i) x.X))[0 + ((f : Nat) : Int).toNat * 1]? = some (.slice (s.x f).oa (s.a.B f).length (s.x f).c) := by rw [rowsF_get rfl hf64, hXf, hmf]
    refine TR.openP (open_arr (oa := z0.1) (xs := ints (natI (filesB s.a.B))) (.head _) (natI_ne hi)) (fun pq hpa => ?_)
    refine TR.skip ?_
    refine NX.seq ?_
    refine TR.seq ?_
    refine TR.block ?_
    refine TR.seq ?_
    refine TR.region ?_
    refine RL.move rfl rfl rfl ?_
    refine RL.move rfl rfl rfl ?_
    refine RL.indexAddr rfl eb_tl33 eb_tz3 (congrArg (fun a => some (Value.slice a _ _)) hpa) rfl (by omega) (by omega) rfl ?_
    refine RL.loadF rfl rfl (fun w K hF => run_loadCell1 (j := ((x.i : Nat) : Int).toNat * 1) (v := I (f : Nat)) (hF (CellsF pq.1 pq.2 (ints (natI (filesB s.a.B)))) (.head _)) eb_ts3 (by rw [hff]; exact natI_get hi)) rfl ?_
    refine RL.assign rfl rfl rfl ?_
    refine RL.nil ?_
    refine NX.seq ?_
    refine TR.seq ?_
    refine TR.region ?_
    refine RL.assign rfl rfl rfl ?_
    refine RL.nil ?_
    refine NX.seq ?_
    refine TR.seq ?_
    refine TR.seq ?_
    refine TR.region ?_
    refine RL.move rfl rfl rfl ?_
    refine RL.move rfl rfl rfl ?_
    refine RL.lenSlice rfl eb_tl33 rfl rfl ?_
    refine RL.bin rfl rfl rfl BinV.lss rfl ?_
    refine RL.nil ?_
    refine NX.seq ?_
    refine TR.cond rfl (fun h2 => ?_) (fun h2 => ?_)
    · skip
      have hik : x.i < ks.length := by have := of_decide_eq_true h2; omega
      have hkk := (keepK_some (room := (s.a.B f).length - s.a.D f) (List.getElem?_eq_getElem hik)).symm
      refine TR.openP (open_arr (oa := ok) (xs := ints ks) (.tail _ (.tail _ hK)) (ints_ne (by omega))) (fun pk hpk => ?_)
      refine TR.sub (E' := [(0, _), (1, _), (2, _), (6, _), (7, _), (8, _), (9, _), (19, _), (20, _), (21, _), (22, _), (25, _), (26, _), (27, _), (28, _), (29, _), (30, _), (31, _), (32, _)]) ⟨rfl, rfl, rfl, rfl, rfl, rfl, rfl, rfl, rfl, rfl, rfl, rfl, rfl, rfl, rfl, rfl, rfl, rfl, rfl, trivial⟩ ?_
      refine TR.draw mixed ?_
      apply AR.more [(0, _), (1, _), (2, _), (3, _), (4, _), (5, _), (6, _), (7, _), (8, _), (9, _), (10, _), (11, _), (12, _), (13, _), (14, _), (15, _), (16, _), (17, _), (18, _), (19, _), (20, _), (21, _), (22, _)]
      refine AR.last [0, 1, 2, 3, 4, 5, 6, 7, 8, 9, 10, 11, 12, 13, 14, 15, 16, 17, 18, 19, 20, 21, 22] [0, 1, 2, 3, 4, 5, 6, 7, 8, 9, 10, 11, 12, 13, 14, 15, 16, 17, 18, 19, 20, 21, 22] ⟨QOne.yes rfl rfl rfl (PV.move rfl), QOne.yes rfl rfl rfl (PV.move rfl), QOne.yes rfl rfl rfl (PV.indexAddr eb_tl33 eb_tz3 (congrArg (fun a => some (Value.slice a _ _)) hpk) rfl (by omega) (by omega)), QOne.yes rfl rfl rfl (PV.loadF rfl (fun w K hF => run_loadCell1 (j := (((x.i : Nat) : Int)).toNat * 1) (v := I ks[x.i]) (hF (CellsF pk.1 pk.2 (ints ks)) (.head _)) eb_ts3 (by rw [Nat.mul_one, Int.toNat_natCast]; exact ints_get hik))), QOne.yes rfl rfl rfl (PV.move rfl), QOne.yes rfl rfl rfl (PV.nilCheck rfl), QOne.yes rfl rfl rfl (PV.fieldAddr eb_tf58_1 rfl), QOne.yes rfl rfl rfl (PV.load1 1 eb_ts22 rfl rfl rfl), QOne.yes rfl rfl rfl (PV.move rfl), QOne.yes rfl rfl rfl (PV.indexAddr eb_tl22 eb_tz27 (congrArg (fun a => some (Value.slice a _ _)) hb) rfl (by omega) (by omega)), QOne.yes rfl rfl rfl (PV.loadS rfl (own_one (i := 2) rfl hb eb_ts27 hget)), QOne.yes rfl rfl rfl (PV.lenSlice eb_tl27 rfl), QOne.yes rfl rfl rfl (PV.move rfl), QOne.yes rfl rfl rfl (PV.nilCheck rfl), QOne.yes rfl rfl rfl (PV.fieldAddr eb_tf58_2 rfl), QOne.yes rfl rfl rfl (PV.load1 1 eb_ts33 rfl rfl rfl), QOne.yes rfl rfl rfl (PV.move rfl), QOne.yes rfl rfl rfl (PV.indexAddr eb_tl33 eb_tz3 (congrArg (fun a => some (Value.slice a _ _)) hf) rfl (by omega) (by omega)), QOne.yes rfl rfl rfl (PV.loadS rfl (own_one (i := 3) rfl hf eb_ts3 (firmF_get (n := f) (by omega) (by omega)))), QOne.yes rfl rfl rfl (PV.bin rfl rfl (BinV.sub (((s.a.B f).length - s.a.D f : Nat) : Int) (by omega) (by omega) (by omega))), QOne.yes rfl rfl rfl (PV.min rfl rfl), QOne.yes rfl rfl rfl (PV.max rfl rfl), QOne.yes rfl rfl rfl (PV.assign rfl), trivial⟩ rfl rfl rfl ?_
      refine NX.sub (E' := [(0, _), (1, _), (2, _), (6, _), (7, _), (8, _), (9, _), (10, _), (19, _), (20, _), (21, _), (22, _), (25, _), (26, _), (27, _), (28, _), (29, _), (30, _), (31, _), (32, _), (33, _), (34, _), (35, _), (36, _), (37, _), (38, _), (39, _), (40, _), (41, _), (42, _), (43, _), (44, _), (45, _), (46, _), (47, _), (48, _), (49, _), (50, _), (51, _), (52, _), (53, _), (54, _)]) ⟨rfl, rfl, rfl, rfl, rfl, rfl, rfl, rfl, rfl, rfl, rfl, rfl, rfl, rfl, rfl, rfl, rfl, rfl, rfl, rfl, rfl, rfl, rfl, rfl, rfl, rfl, rfl, rfl, rfl, rfl, rfl, rfl, rfl, rfl, rfl, rfl, rfl, rfl, rfl, rfl, rfl, rfl, trivial⟩ ?_
      refine NX.seq ?_
      refine TR.seq ?_
      refine TR.region ?_
      refine RL.assign rfl rfl rfl ?_
      refine RL.nil ?_
      refine NX.seq ?_
      refine TR.seq ?_
      refine TR.weak (fun w hw => OwnSl.nil_new 5 1 hw) ?_
      refine TR.weak (fun w hw => hw.allB_get (.tail _ (.tail _ (.tail _ hA))) (rowsF_mem hf64)) ?_
      refine TR.weak (fun w hw => hw.cutT (s.a.D f + keepK ks x.i ((s.a.B f).length - s.a.D f)) hcp (.head _)) ?_
      refine TR.sub (E' := [(0, _), (1, _), (2, _), (6, _), (7, _), (8, _), (9, _), (10, _), (11, _), (19, _), (20, _), (21, _), (22, _), (25, _), (26, _), (27, _), (28, _), (29, _), (30, _), (31, _), (32, _), (33, _), (34, _), (35, _), (36, _), (37, _), (38, _), (39, _), (40, _), (41, _), (42, _), (43, _), (44, _), (45, _), (46, _), (47, _), (48, _), (49, _), (50, _), (51, _), (52, _), (53, _), (54, _)]) ⟨rfl, rfl, rfl, rfl, rfl, rfl, rfl, rfl, rfl, rfl, rfl, rfl, rfl, rfl, rfl, rfl, rfl, rfl, rfl, rfl, rfl, rfl, rfl, rfl, rfl, rfl, rfl, rfl, rfl, rfl, rfl, rfl, rfl, rfl, rfl, rfl, rfl, rfl, rfl, rfl, rfl, rfl, rfl, trivial⟩ ?_
      refine TR.draw mixed ?_
      apply AR.more [(0, _), (1, _), (2, _), (3, _), (4, _), (5, _), (6, _), (7, _), (8, _), (9, _), (10, _), (11, _), (12, _), (13, _), (14, _), (15, _), (16, _), (17, _), (18, _), (19, _), (20, _), (21, _), (22, _)]
      refine AR.eff [0, 1, 2, 3, 4, 5, 6, 7, 8, 9, 10, 11, 12, 13, 14, 15, 16, 17, 18, 19, 20, 21, 22] 23 [0, 1, 2, 3, 4, 5, 6, 7, 8, 9, 10, 11, 12, 13, 14, 15, 16, 17, 18, 19, 20, 21, 22, 23, 24, 25] ⟨QOne.yes rfl rfl rfl (PV.move rfl), QOne.yes rfl rfl rfl (PV.nilCheck rfl), QOne.yes rfl rfl rfl (PV.fieldAddr eb_tf58_1 rfl), QOne.yes rfl rfl rfl (PV.load1 2 eb_ts22 rfl rfl rfl), QOne.yes rfl rfl rfl (PV.move rfl), QOne.yes rfl rfl rfl (PV.move rfl), QOne.yes rfl rfl rfl (PV.move rfl), QOne.yes rfl rfl rfl (PV.nilCheck rfl), QOne.yes rfl rfl rfl (PV.fieldAddr eb_tf58_1 rfl), QOne.yes rfl rfl rfl (PV.load1 2 eb_ts22 rfl rfl rfl), QOne.yes rfl rfl rfl (PV.move rfl), QOne.yes rfl rfl rfl (PV.indexAddr eb_tl22 eb_tz27 (congrArg (fun a => some (Value.slice a _ _)) hb) rfl (by omega) (by omega)), QOne.yes rfl rfl rfl (PV.loadS rfl (own_one (i := 3) rfl hb eb_ts27 hget)), QOne.yes rfl rfl rfl (PV.move rfl), QOne.yes rfl rfl rfl (PV.nilCheck rfl), QOne.yes rfl rfl rfl (PV.fieldAddr eb_tf58_2 rfl), QOne.yes rfl rfl rfl (PV.load1 2 eb_ts33 rfl rfl rfl), QOne.yes rfl rfl rfl (PV.move rfl), QOne.yes rfl rfl rfl (PV.indexAddr eb_tl33 eb_tz3 (congrArg (fun a => some (Value.slice a _ _)) hf) rfl (by omega) (by omega)), QOne.yes rfl rfl rfl (PV.loadS rfl (own_one (i := 4) rfl hf eb_ts3 (firmF_get (n := f) (by omega) (by omega)))), QOne.yes rfl rfl rfl (PV.move rfl), QOne.yes rfl rfl rfl (PV.bin rfl rfl (BinV.add ((s.a.D f + keepK ks x.i ((s.a.B f).length - s.a.D f)) : Nat) (by omega) (by omega) (by omega))), QOne.yes rfl rfl rfl (PV.cast (v' := .slice (cutA (s.x f).oa 0 (s.x f).c 1) ((cutB s.a.B s.a.D ks) f).length (s.x f).c) (by rw [hcle]; rfl) (PV.sliceLH (l := 0) (h := (s.a.D f + keepK ks x.i ((s.a.B f).length - s.a.D f))) eb_tl27 eb_tz5 rfl (.inl ⟨rfl, rfl⟩) (.inr ⟨_, rfl, rfl⟩) (Nat.zero_le _) (by omega))), trivial⟩ rfl rfl rfl rfl rfl rfl rfl (EV.ofGV (GV.append (j := 0) eb_tl27 eb_ni27 eb_te5 rfl rfl rfl (src_fact (xs := bytesV ((s.a.B f).take (s.a.D f + keepK ks x.i ((s.a.B f).length - s.a.D f)))) (.head _) (by rw [bytesV_length, Nat.mul_one, hcut]) (bytesV_one _)) (by omega) (by omega))) (fun z2 => ?_)
      refine AR.done [5, 22, 12, 21, 19, 20, 11, 9, 10, 18, 16, 17, 8, 7, 15, 14, 6, 13] rfl ?_
      apply AR.more [(24, _)]
      refine AR.eff [0, 1, 2, 3, 4, 24] 25 [0, 1, 2, 3, 4, 5, 6, 7, 8, 9, 10, 11, 12, 13, 14, 15, 16, 17, 18, 19, 20, 21, 22, 23, 24, 25] ⟨QOne.yes rfl rfl rfl (PV.move rfl), QOne.yes rfl rfl rfl (PV.nilCheck rfl), QOne.yes rfl rfl rfl (PV.fieldAddr eb_tf58_1 rfl), QOne.yes rfl rfl rfl (PV.load1 2 eb_ts22 rfl rfl rfl), QOne.yes rfl rfl rfl (PV.move rfl), QOne.yes rfl rfl rfl (PV.indexAddr eb_tl22 eb_tz27 (congrArg (fun a => some (Value.slice a _ _)) hb) rfl (by omega) (by omega)), trivial⟩ rfl rfl rfl rfl rfl rfl rfl (EV.storeRow (n := f) (z := ⟨z2.1, z2.2⟩) (l := ((cutB s.a.B s.a.D ks) f)) 3 rfl (by show some (Value.slice z2.1 (0 + _) z2.2) = some (Value.slice z2.1 _ z2.2); rw [Nat.zero_add]) rfl hb eb_tz27 (by omega) (by omega)) (fun _ => ?_)
      refine AR.done [24, 0, 1, 2, 3, 4] rfl ?_
      refine AR.last [] [0, 1, 2, 3, 4, 5, 6, 7, 8, 9, 10, 11, 12, 13, 14, 15, 16, 17, 18, 19, 20, 21, 22, 23, 24, 25] trivial rfl rfl rfl ?_
      refine NX.sub (E' := [(0, _), (1, _), (2, _), (6, _), (7, _), (8, _), (9, _), (10, _), (11, _), (19, _), (20, _), (21, _), (22, _), (25, _), (26, _), (27, _), (28, _), (29, _), (30, _), (31, _), (32, _), (33, _), (34, _), (35, _), (36, _), (37, _), (38, _), (39, _), (40, _), (41, _), (42, _), (43, _), (44, _), (45, _), (46, _), (47, _), (48, _), (49, _), (50, _), (51, _), (52, _), (53, _), (54, _), (55, _), (56, _), (57, _), (58, _), (59, _), (60, _), (61, _), (62, _), (63, _), (64, _), (65, _), (66, _), (67, _), (68, _), (69, _), (70, _), (71, _), (72, _), (73, _), (74, _), (75, _), (76, _), (77, _), (78, _), (79, _)]) ⟨rfl, rfl, rfl, rfl, rfl, rfl, rfl, rfl, rfl, rfl, rfl, rfl, rfl, rfl, rfl, rfl, rfl, rfl, rfl, rfl, rfl, rfl, rfl, rfl, rfl, rfl, rfl, rfl, rfl, rfl, rfl, rfl, rfl, rfl, rfl, rfl, rfl, rfl, rfl, rfl, rfl, rfl, rfl, rfl, rfl, rfl, rfl, rfl, rfl, rfl, rfl, rfl, rfl, rfl, rfl, rfl, rfl, rfl, rfl, rfl, rfl, rfl, rfl, rfl, rfl, rfl, rfl, rfl, trivial⟩ ?_
      refine NX.seq ?_
      refine TR.pick 5 [0, 1, 2, 3, 4] rfl ?_
      refine TR.weak (M' := OwnSl 5 1 z2.1 ((cutB s.a.B s.a.D ks) f).length z2.2 (bytesV ((cutB s.a.B s.a.D ks) f)) :: _) (F' := _) (fun w hw => by rw [← Nat.zero_add ((cutB s.a.B s.a.D ks) f).length]; have e9 : bytesV ((cutB s.a.B s.a.D ks) f) = [] ++ bytesV ((s.a.B f).take (s.a.D f + keepK ks x.i ((s.a.B f).length - s.a.D f))) := (congrArg bytesV hcut).trans rfl; rw [e9]; exact hw) ?_
      refine TR.region ?_
      refine RL.move rfl rfl rfl ?_
      refine RL.move rfl rfl rfl ?_
      refine RL.bin rfl rfl rfl (BinV.add (((looseT s.a.B s.a.D ks (x.i + 1)).length : Nat) : Int) (by omega) (by omega) (by omega)) rfl ?_
      refine RL.assign rfl rfl rfl ?_
      refine RL.nil ?_
      refine NX.off ?_
      refine NX.seq ?_
      refine TR.region ?_
      refine RL.move rfl rfl rfl ?_
      refine RL.bin rfl rfl rfl (BinV.add ((x.i + 1 : Nat) : Int) (by omega) (by omega) (by omega)) rfl ?_
      refine RL.assign rfl rfl rfl ?_
      refine RL.nil ?_
      have hrw : (rowsL ((filesB s.a.B).take x.i) (cutB s.a.B s.a.D ks) x.X).map (ownR 5) ++ [OwnSl 5 1 z2.1 ((cutB s.a.B s.a.D ks) f).length z2.2 (bytesV ((cutB s.a.B s.a.D ks) f))] = (rowsL ((filesB s.a.B).take (x.i + 1)) (cutB s.a.B s.a.D ks) (upd x.X f ⟨z2.1, z2.2⟩)).map (ownR 5) := by
        rw [List.take_succ_eq_append_getElem hi, ← hff, rowsL_snoc, List.map_append]
        congr 1
        · congr 1; exact rowsL_cg fun n hn => ⟨rfl, (if_neg (fun e => fresh_file hi (by rw [← hff, ← e]; exact hn))).symm⟩
        · show [_] = [ownR 5 ((cutB s.a.B s.a.D ks) f, upd x.X f _ f)]; unfold upd; rw [if_pos rfl]; rfl
      have hmx : (mixB s.a.B s.a.D ks (x.i + 1)) = upd (mixB s.a.B s.a.D ks x.i) f ((cutB s.a.B s.a.D ks) f) := by rw [mixB_succ hi, ← hff]
      refine NX.roundP ⟨x.i + 1, (upd x.X f ⟨z2.1, z2.2⟩)⟩ ⟨by show x.i + 1 ≤ _; omega, fun n hn => by
              show upd x.X f _ n = s.x n
              have hn2 : n ∉ (filesB s.a.B).take (x.i + 1) := hn
              rw [List.take_succ_eq_append_getElem hi, ← hff] at hn2
              unfold upd
              rw [if_neg (fun e => hn2 (by rw [e]; exact List.mem_append.2 (.inr (List.mem_singleton.2 rfl))))]
              exact hx.2.1 n (fun e => hn2 (List.mem_append.2 (.inl e))), by show (looseT s.a.B s.a.D ks (x.i + 1)).length ≤ (x.i + 1) * 16777216; have := hx.2.2; omega⟩ (by show (filesB s.a.B).length - (x.i + 1) < _; omega) ⟨rfl, rfl, rfl, rfl, rfl, rfl, trivial⟩ (fun w hw => (by
              show St w (Al ((rowsL ((filesB s.a.B).take (x.i + 1)) (cutB s.a.B s.a.D ks) (upd x.X f ⟨z2.1, z2.2⟩)).map (ownR 5)) :: Box b 58 (rfC s) :: OwnSl 27 1 s.ba 64 64 (listV (rowsF (mixB s.a.B s.a.D ks (x.i + 1)) (upd x.X f ⟨z2.1, z2.2⟩))) :: OwnSl 3 1 s.fa 64 64 (ints (firmF s.a.D)) :: M) _
              rw [← hrw, hmx]
              exact (show St w (OwnSl 5 1 z2.1 ((cutB s.a.B s.a.D ks) f).length z2.2 (bytesV ((cutB s.a.B s.a.D ks) f)) :: Al ((rowsL ((filesB s.a.B).take x.i) (cutB s.a.B s.a.D ks) x.X).map (ownR 5)) :: Box b 58 (rfC s) :: OwnSl 27 1 s.ba 64 64 (listV (rowsF (upd (mixB s.a.B s.a.D ks x.i) f ((cutB s.a.B s.a.D ks) f)) (upd x.X f ⟨z2.1, z2.2⟩))) :: OwnSl 3 1 s.fa 64 64 (ints (firmF s.a.D)) :: M) (ArrF z0.1 (ints (natI (filesB s.a.B))) :: F) from (hw.to 5 [0, 1, 2, 3, 4] 5 [4] rfl)).alSnoc))
    · skip
      have hkk : (0 : Int) = ((keepK ks x.i ((s.a.B f).length - s.a.D f) : Nat) : Int) := by
        have := of_decide_eq_false h2
        unfold keepK; rw [List.getElem?_eq_none (by omega)]; rfl
      refine TR.skip ?_
      refine NX.seq ?_
      refine TR.seq ?_
      refine TR.region ?_
      refine RL.assign rfl rfl rfl ?_
      refine RL.nil ?_
      refine NX.seq ?_
      refine TR.seq ?_
      refine TR.weak (fun w hw => OwnSl.nil_new 5 1 hw) ?_
      refine TR.weak (fun w hw => hw.allB_get (.tail _ (.tail _ hA)) (rowsF_mem hf64)) ?_
      refine TR.weak (fun w hw => hw.cutT (s.a.D f + keepK ks x.i ((s.a.B f).length - s.a.D f)) hcp (.head _)) ?_
      refine TR.sub (E' := [(0, _), (1, _), (2, _), (6, _), (7, _), (8, _), (9, _), (10, _), (11, _), (19, _), (20, _), (21, _), (22, _), (25, _), (26, _), (27, _), (28, _), (29, _), (30, _), (31, _), (32, _)]) ⟨rfl, rfl, rfl, rfl, rfl, rfl, rfl, rfl, rfl, rfl, rfl, rfl, rfl, rfl, rfl, rfl, rfl, rfl, rfl, rfl, rfl, trivial⟩ ?_
      refine TR.draw mixed ?_
      apply AR.more [(0, _), (1, _), (2, _), (3, _), (4, _), (5, _), (6, _), (7, _), (8, _), (9, _), (10, _), (11, _), (12, _), (13, _), (14, _), (15, _), (16, _), (17, _), (18, _), (19, _), (20, _), (21, _), (22, _)]
      refine AR.eff [0, 1, 2, 3, 4, 5, 6, 7, 8, 9, 10, 11, 12, 13, 14, 15, 16, 17, 18, 19, 20, 21, 22] 23 [0, 1, 2, 3, 4, 5, 6, 7, 8, 9, 10, 11, 12, 13, 14, 15, 16, 17, 18, 19, 20, 21, 22, 23, 24, 25] ⟨QOne.yes rfl rfl rfl (PV.move rfl), QOne.yes rfl rfl rfl (PV.nilCheck rfl), QOne.yes rfl rfl rfl (PV.fieldAddr eb_tf58_1 rfl), QOne.yes rfl rfl rfl (PV.load1 2 eb_ts22 rfl rfl rfl), QOne.yes rfl rfl rfl (PV.move rfl), QOne.yes rfl rfl rfl (PV.move rfl), QOne.yes rfl rfl rfl (PV.move rfl), QOne.yes rfl rfl rfl (PV.nilCheck rfl), QOne.yes rfl rfl rfl (PV.fieldAddr eb_tf58_1 rfl), QOne.yes rfl rfl rfl (PV.load1 2 eb_ts22 rfl rfl rfl), QOne.yes rfl rfl rfl (PV.move rfl), QOne.yes rfl rfl rfl (PV.indexAddr eb_tl22 eb_tz27 (congrArg (fun a => some (Value.slice a _ _)) hb) rfl (by omega) (by omega)), QOne.yes rfl rfl rfl (PV.loadS rfl (own_one (i := 3) rfl hb eb_ts27 hget)), QOne.yes rfl rfl rfl (PV.move rfl), QOne.yes rfl rfl rfl (PV.nilCheck rfl), QOne.yes rfl rfl rfl (PV.fieldAddr eb_tf58_2 rfl), QOne.yes rfl rfl rfl (PV.load1 2 eb_ts33 rfl rfl rfl), QOne.yes rfl rfl rfl (PV.move rfl), QOne.yes rfl rfl rfl (PV.indexAddr eb_tl33 eb_tz3 (congrArg (fun a => some (Value.slice a _ _)) hf) rfl (by omega) (by omega)), QOne.yes rfl rfl rfl (PV.loadS rfl (own_one (i := 4) rfl hf eb_ts3 (firmF_get (n := f) (by omega) (by omega)))), QOne.yes rfl rfl rfl (PV.move rfl), QOne.yes rfl rfl rfl (PV.bin rfl rfl (BinV.add ((s.a.D f + keepK ks x.i ((s.a.B f).length - s.a.D f)) : Nat) (by omega) (by omega) (by omega))), QOne.yes rfl rfl rfl (PV.cast (v' := .slice (cutA (s.x f).oa 0 (s.x f).c 1) ((cutB s.a.B s.a.D ks) f).length (s.x f).c) (by rw [hcle]; rfl) (PV.sliceLH (l := 0) (h := (s.a.D f + keepK ks x.i ((s.a.B f).length - s.a.D f))) eb_tl27 eb_tz5 rfl (.inl ⟨rfl, rfl⟩) (.inr ⟨_, rfl, rfl⟩) (Nat.zero_le _) (by omega))), trivial⟩ rfl rfl rfl rfl rfl rfl rfl (EV.ofGV (GV.append (j := 0) eb_tl27 eb_ni27 eb_te5 rfl rfl rfl (src_fact (xs := bytesV ((s.a.B f).take (s.a.D f + keepK ks x.i ((s.a.B f).length - s.a.D f)))) (.head _) (by rw [bytesV_length, Nat.mul_one, hcut]) (bytesV_one _)) (by omega) (by omega))) (fun z2 => ?_)
      refine AR.done [5, 22, 12, 21, 19, 20, 11, 9, 10, 18, 16, 17, 8, 7, 15, 14, 6, 13] rfl ?_
      apply AR.more [(24, _)]
      refine AR.eff [0, 1, 2, 3, 4, 24] 25 [0, 1, 2, 3, 4, 5, 6, 7, 8, 9, 10, 11, 12, 13, 14, 15, 16, 17, 18, 19, 20, 21, 22, 23, 24, 25] ⟨QOne.yes rfl rfl rfl (PV.move rfl), QOne.yes rfl rfl rfl (PV.nilCheck rfl), QOne.yes rfl rfl rfl (PV.fieldAddr eb_tf58_1 rfl), QOne.yes rfl rfl rfl (PV.load1 2 eb_ts22 rfl rfl rfl), QOne.yes rfl rfl rfl (PV.move rfl), QOne.yes rfl rfl rfl (PV.indexAddr eb_tl22 eb_tz27 (congrArg (fun a => some (Value.slice a _ _)) hb) rfl (by omega) (by omega)), trivial⟩ rfl rfl rfl rfl rfl rfl rfl (EV.storeRow (n := f) (z := ⟨z2.1, z2.2⟩) (l := ((cutB s.a.B s.a.D ks) f)) 3 rfl (by show some (Value.slice z2.1 (0 + _) z2.2) = some (Value.slice z2.1 _ z2.2); rw [Nat.zero_add]) rfl hb eb_tz27 (by omega) (by omega)) (fun _ => ?_)
      refine AR.done [24, 0, 1, 2, 3, 4] rfl ?_
      refine AR.last [] [0, 1, 2, 3, 4, 5, 6, 7, 8, 9, 10, 11, 12, 13, 14, 15, 16, 17, 18, 19, 20, 21, 22, 23, 24, 25] trivial rfl rfl rfl ?_
      refine NX.sub (E' := [(0, _), (1, _), (2, _), (6, _), (7, _), (8, _), (9, _), (10, _), (11, _), (19, _), (20, _), (21, _), (22, _), (25, _), (26, _), (27, _), (28, _), (29, _), (30, _), (31, _), (32, _), (55, _), (56, _), (57, _), (58, _), (59, _), (60, _), (61, _), (62, _), (63, _), (64, _), (65, _), (66, _), (67, _), (68, _), (69, _), (70, _), (71, _), (72, _), (73, _), (74, _), (75, _), (76, _), (77, _), (78, _), (79, _)]) ⟨rfl, rfl, rfl, rfl, rfl, rfl, rfl, rfl, rfl, rfl, rfl, rfl, rfl, rfl, rfl, rfl, rfl, rfl, rfl, rfl, rfl, rfl, rfl, rfl, rfl, rfl, rfl, rfl, rfl, rfl, rfl, rfl, rfl, rfl, rfl, rfl, rfl, rfl, rfl, rfl, rfl, rfl, rfl, rfl, rfl, rfl, trivial⟩ ?_
      refine NX.seq ?_
      refine TR.pick 5 [0, 1, 2, 3, 4] rfl ?_
      refine TR.weak (M' := OwnSl 5 1 z2.1 ((cutB s.a.B s.a.D ks) f).length z2.2 (bytesV ((cutB s.a.B s.a.D ks) f)) :: _) (F' := _) (fun w hw => by rw [← Nat.zero_add ((cutB s.a.B s.a.D ks) f).length]; have e9 : bytesV ((cutB s.a.B s.a.D ks) f) = [] ++ bytesV ((s.a.B f).take (s.a.D f + keepK ks x.i ((s.a.B f).length - s.a.D f))) := (congrArg bytesV hcut).trans rfl; rw [e9]; exact hw) ?_
      refine TR.region ?_
      refine RL.move rfl rfl rfl ?_
      refine RL.move rfl rfl rfl ?_
      refine RL.bin rfl rfl rfl (BinV.add (((looseT s.a.B s.a.D ks (x.i + 1)).length : Nat) : Int) (by omega) (by omega) (by omega)) rfl ?_
      refine RL.assign rfl rfl rfl ?_
      refine RL.nil ?_
      refine NX.off ?_
      refine NX.seq ?_
      refine TR.region ?_
      refine RL.move rfl rfl rfl ?_
      refine RL.bin rfl rfl rfl (BinV.add ((x.i + 1 : Nat) : Int) (by omega) (by omega) (by omega)) rfl ?_
      refine RL.assign rfl rfl rfl ?_
      refine RL.nil ?_
      have hrw : (rowsL ((filesB s.a.B).take x.i) (cutB s.a.B s.a.D ks) x.X).map (ownR 5) ++ [OwnSl 5 1 z2.1 ((cutB s.a.B s.a.D ks) f).length z2.2 (bytesV ((cutB s.a.B s.a.D ks) f))] = (rowsL ((filesB s.a.B).take (x.i + 1)) (cutB s.a.B s.a.D ks) (upd x.X f ⟨z2.1, z2.2⟩)).map (ownR 5) := by
        rw [List.take_succ_eq_append_getElem hi, ← hff, rowsL_snoc, List.map_append]
        congr 1
        · congr 1; exact rowsL_cg fun n hn => ⟨rfl, (if_neg (fun e => fresh_file hi (by rw [← hff, ← e]; exact hn))).symm⟩
        · show [_] = [ownR 5 ((cutB s.a.B s.a.D ks) f, upd x.X f _ f)]; unfold upd; rw [if_pos rfl]; rfl
      have hmx : (mixB s.a.B s.a.D ks (x.i + 1)) = upd (mixB s.a.B s.a.D ks x.i) f ((cutB s.a.B s.a.D ks) f) := by rw [mixB_succ hi, ← hff]
      refine NX.roundP ⟨x.i + 1, (upd x.X f ⟨z2.1, z2.2⟩)⟩ ⟨by show x.i + 1 ≤ _; omega, fun n hn => by
              show upd x.X f _ n = s.x n
              have hn2 : n ∉ (filesB s.a.B).take (x.i + 1) := hn
              rw [List.take_succ_eq_append_getElem hi, ← hff] at hn2
              unfold upd
              rw [if_neg (fun e => hn2 (by rw [e]; exact List.mem_append.2 (.inr (List.mem_singleton.2 rfl))))]
              exact hx.2.1 n (fun e => hn2 (List.mem_append.2 (.inl e))), by show (looseT s.a.B s.a.D ks (x.i + 1)).length ≤ (x.i + 1) * 16777216; have := hx.2.2; omega⟩ (by show (filesB s.a.B).length - (x.i + 1) < _; omega) ⟨rfl, rfl, rfl, rfl, rfl, rfl, trivial⟩ (fun w hw => (by
              show St w (Al ((rowsL ((filesB s.a.B).take (x.i + 1)) (cutB s.a.B s.a.D ks) (upd x.X f ⟨z2.1, z2.2⟩)).map (ownR 5)) :: Box b 58 (rfC s) :: OwnSl 27 1 s.ba 64 64 (listV (rowsF (mixB s.a.B s.a.D ks (x.i + 1)) (upd x.X f ⟨z2.1, z2.2⟩))) :: OwnSl 3 1 s.fa 64 64 (ints (firmF s.a.D)) :: M) _
              rw [← hrw, hmx]
              exact (show St w (OwnSl 5 1 z2.1 ((cutB s.a.B s.a.D ks) f).length z2.2 (bytesV ((cutB s.a.B s.a.D ks) f)) :: Al ((rowsL ((filesB s.a.B).take x.i) (cutB s.a.B s.a.D ks) x.X).map (ownR 5)) :: Box b 58 (rfC s) :: OwnSl 27 1 s.ba 64 64 (listV (rowsF (upd (mixB s.a.B s.a.D ks x.i) f ((cutB s.a.B s.a.D ks) f)) (upd x.X f ⟨z2.1, z2.2⟩))) :: OwnSl 3 1 s.fa 64 64 (ints (firmF s.a.D)) :: M) (ArrF z0.1 (ints (natI (filesB s.a.B))) :: F) from (hw.to 5 [0, 1, 2, 3, 4] 4 [3] rfl)).alSnoc))
  · skip
    have hend : x.i = (filesB s.a.B).length := by have := of_decide_eq_false h1; have := hx.1; omega
    have hlla : (looseT s.a.B s.a.D ks x.i) = (looseB s.a.B s.a.D ks) := by rw [hend]; exact looseT_all
    have hmr : rowsF (mixB s.a.B s.a.D ks x.i) x.X = rowsF (cutB s.a.B s.a.D ks) x.X := rowsF_cg fun n hn => ⟨by rw [hend]; exact mixB_all hn, rfl⟩
    have hal : (filesB s.a.B).take x.i = (filesB s.a.B) := by rw [hend, List.take_length]
    have hfl64 := filesB_len s.a.B
    have hlo := hx.2.2
    refine TR.exit ?_
    refine NX.exitThen ?_
    refine NX.exitThen ?_
    refine NX.exitHere ?_
    refine NX.seq ?_
    refine TR.seq ?_
    refine TR.region ?_
    refine RL.assign rfl rfl rfl ?_
    refine RL.nil ?_
    refine NX.seq ?_
    refine TR.cut (ι := Unit) (fun _ => [(0, .pointer (some ⟨b, 0, none⟩)), (6, .slice z0.1 (filesB s.a.B).length z0.2), (12, I (atF s.a.B s.a.D ks fl))]) (fun _ => Al ((rowsL (filesB s.a.B) (cutB s.a.B s.a.D ks) x.X).map (ownR 5)) :: Box b 58 (rfC s) :: OwnSl 27 1 s.ba 64 64 (listV (rowsF (cutB s.a.B s.a.D ks) x.X)) :: OwnSl 3 1 s.fa 64 64 (ints (firmF s.a.D)) :: M) (fun _ => ArrF z0.1 (ints (natI (filesB s.a.B))) :: F) ?_ (fun _ => ?_)
    · skip
      refine TR.seq ?_
      refine TR.region ?_
      refine RL.move rfl rfl rfl ?_
      refine RL.bin rfl rfl rfl BinV.geq rfl ?_
      refine RL.move rfl rfl rfl ?_
      refine RL.part (fun h5 => ?_) (fun h5 => ?_)
      · skip
        have hfl0 := of_decide_eq_true h5
        refine RL.move rfl rfl rfl ?_
        refine RL.bin rfl rfl rfl BinV.gtr rfl ?_
        refine RL.pickT rfl rfl rfl rfl ?_
        refine RL.nil ?_
        refine NX.seq ?_
        refine TR.cond rfl (fun h6 => ?_) (fun h6 => ?_)
        · skip
          have hmn : 0 < (looseT s.a.B s.a.D ks x.i).length := by have := of_decide_eq_true h6; omega
          have hat : (atF s.a.B s.a.D ks fl) = ((fl.toNat % (8 * (looseT s.a.B s.a.D ks x.i).length) : Nat) : Int) := by unfold atF; rw [if_pos ⟨hfl0, by rw [← hlla]; exact hmn⟩, hlla]
          obtain ⟨fn, rfl⟩ : ∃ fn : Nat, fl = fn := ⟨fl.toNat, by omega⟩
          refine TR.region ?_
          refine RL.move rfl rfl rfl ?_
          refine RL.move rfl rfl rfl ?_
          refine RL.bin rfl rfl rfl (BinV.mul ((8 * (looseT s.a.B s.a.D ks x.i).length : Nat) : Int) (by omega) (by omega) (by omega)) rfl ?_
          refine RL.bin rfl rfl rfl (BinV.remK (a := fn) (b := 8 * (looseT s.a.B s.a.D ks x.i).length) (by omega)) rfl ?_
          refine RL.assign rfl rfl rfl ?_
          refine RL.nil ?_
          refine NX.meet () ⟨rfl, rfl, by rw [hat]; rfl, trivial⟩ (fun w hw => by rw [← hmr, show rowsL (filesB s.a.B) (cutB s.a.B s.a.D ks) x.X = rowsL ((filesB s.a.B).take x.i) (cutB s.a.B s.a.D ks) x.X by rw [hal]]; exact (hw.to 4 [0, 1, 2, 3] 1 [0] rfl))
        · skip
          have hat : (atF s.a.B s.a.D ks fl) = -1 := if_neg (fun e => (of_decide_eq_false h6) (by rw [hlla]; exact Int.ofNat_lt.2 e.2))
          refine TR.skip ?_
          refine NX.meet () ⟨rfl, rfl, by rw [hat]; rfl, trivial⟩ (fun w hw => by rw [← hmr, show rowsL (filesB s.a.B) (cutB s.a.B s.a.D ks) x.X = rowsL ((filesB s.a.B).take x.i) (cutB s.a.B s.a.D ks) x.X by rw [hal]]; exact (hw.to 4 [0, 1, 2, 3] 1 [0] rfl))
      · skip
        have hat : (atF s.a.B s.a.D ks fl) = -1 := if_neg (fun e => (of_decide_eq_false h5) e.1)
        refine RL.skip rfl rfl rfl ?_
        refine RL.skip rfl rfl rfl ?_
        refine RL.pickF rfl rfl rfl rfl ?_
        refine RL.nil ?_
        refine NX.seq ?_
        refine TR.condF rfl ?_
        refine TR.skip ?_
        refine NX.meet () ⟨rfl, rfl, by rw [hat]; rfl, trivial⟩ (fun w hw => by rw [← hmr, show rowsL (filesB s.a.B) (cutB s.a.B s.a.D ks) x.X = rowsL ((filesB s.a.B).take x.i) (cutB s.a.B s.a.D ks) x.X by rw [hal]]; exact (hw.to 4 [0, 1, 2, 3] 1 [0] rfl))
    refine TR.seq ?_
    refine TR.seq ?_
    have hatg := atF_ge (B := s.a.B) (D := s.a.D) (ks := ks) (fl := fl)
    have hatl : (atF s.a.B s.a.D ks fl) < 8 * (looseB s.a.B s.a.D ks).length + 8 := by
      by_cases e : 0 ≤ (atF s.a.B s.a.D ks fl)
      · have := atF_lt e; omega
      · omega
    refine TR.region ?_
    refine RL.assign rfl rfl rfl ?_
    refine RL.nil ?_
    refine NX.seq ?_
    refine TR.block ?_
    refine TR.loopP (ι := Nat) (fun y => y ≤ (filesB s.a.B).length ∧ True) (fun y => [(0, .pointer (some ⟨b, 0, none⟩)), (6, .slice z0.1 (filesB s.a.B).length z0.2), (12, I ((atF s.a.B s.a.D ks fl) - 8 * (((looseT s.a.B s.a.D ks y).length : Nat) : Int))), (13, I (y : Nat))]) (fun y => Al ((rowsL (filesB s.a.B) (midB s.a.B s.a.D ks fl (looseT s.a.B s.a.D ks y).length) x.X).map (ownR 5)) :: Box b 58 (rfC s) :: OwnSl 27 1 s.ba 64 64 (listV (rowsF (cutB s.a.B s.a.D ks) x.X)) :: OwnSl 3 1 s.fa 64 64 (ints (firmF s.a.D)) :: M) (fun y => ArrF z0.1 (ints (natI (filesB s.a.B))) :: F) (fun y => (filesB s.a.B).length - y) 0 ⟨Nat.zero_le _, trivial⟩ ⟨rfl, rfl, by show some (I _) = some (I (_ - 8 * ((0 : Nat) : Int))); congr 2; omega, rfl, trivial⟩ (fun w hw => (by rw [show rowsL (filesB s.a.B) (midB s.a.B s.a.D ks fl (looseT s.a.B s.a.D ks 0).length) x.X = rowsL (filesB s.a.B) (cutB s.a.B s.a.D ks) x.X from rowsL_cg fun n hn => ⟨midB_zero, rfl⟩]; exact hw)) (fun y hy => ?_)
    refine TR.seq ?_
    refine TR.seq ?_
    refine TR.region ?_
    refine RL.move rfl rfl rfl ?_
    refine RL.move rfl rfl rfl ?_
    refine RL.lenSlice rfl eb_tl33 rfl rfl ?_
    refine RL.bin rfl rfl rfl BinV.lss rfl ?_
    refine RL.nil ?_
    refine NX.seq ?_
    refine TR.cond rfl (fun h7 => ?_) (fun h7 => ?_)
    · skip
      have hi : y < (filesB s.a.B).length := by have := of_decide_eq_true h7; omega
      have hfl64 := filesB_len s.a.B
      obtain ⟨f, hff⟩ : ∃ f, f = (filesB s.a.B)[y]'hi := ⟨_, rfl⟩
      have hf64 : f < 64 := by rw [hff]; exact (filesB_mem.1 (List.getElem_mem hi)).1
      have hrl := used_one (B := s.a.B) hf64
      have hus := h.us
      have hrm := h.rm
      have hde := h.le f hf64
      have hcp := h.cp f hf64
      have hcl := cutB_len s.a.B s.a.D ks f
      have hcut : (cutB s.a.B s.a.D ks) f = (s.a.B f).take (s.a.D f + keepK ks y ((s.a.B f).length - s.a.D f)) := by rw [hff]; exact cut_fi hi
      have hkl := keepK_le ks y ((s.a.B f).length - s.a.D f)
      have hcle : ((cutB s.a.B s.a.D ks) f).length = s.a.D f + keepK ks y ((s.a.B f).length - s.a.D f) := by rw [hcut, List.length_take, Nat.min_eq_left (by omega)]
      have hll : (looseT s.a.B s.a.D ks (y + 1)).length = (looseT s.a.B s.a.D ks y).length + keepK ks y ((s.a.B f).length - s.a.D f) := by rw [looseT_len hi, ← hff]; omega
      have hlm := looseT_mono (B := s.a.B) (D := s.a.D) (ks := ks) (show y + 1 ≤ (filesB s.a.B).length by omega)
      rw [looseT_all] at hlm
      have hll2 : (looseT s.a.B s.a.D ks x.i).length = (looseB s.a.B s.a.D ks).length := by rw [hlla]
      refine TR.openP (open_arr (oa := z0.1) (xs := ints (natI (filesB s.a.B))) (.head _) (natI_ne hi)) (fun pq hpa => ?_)
      refine TR.skip ?_
      refine NX.seq ?_
      refine TR.seq ?_
      refine TR.block ?_
      refine TR.seq ?_
      refine TR.region ?_
      refine RL.move rfl rfl rfl ?_
      refine RL.move rfl rfl rfl ?_
      refine RL.indexAddr rfl eb_tl33 eb_tz3 (congrArg (fun a => some (Value.slice a _ _)) hpa) rfl (by omega) (by omega) rfl ?_
      refine RL.loadF rfl rfl (fun w K hF => run_loadCell1 (j := ((y : Nat) : Int).toNat * 1) (v := I (f : Nat)) (hF (CellsF pq.1 pq.2 (ints (natI (filesB s.a.B)))) (.head _)) eb_ts3 (by rw [hff]; exact natI_get hi)) rfl ?_
      refine RL.assign rfl rfl rfl ?_
      refine RL.nil ?_
      refine NX.seq ?_
      refine TR.seq ?_
      refine TR.region ?_
      refine RL.move rfl rfl rfl ?_
      refine RL.nilCheck rfl rfl rfl ?_
      refine RL.fieldAddr rfl eb_tf58_2 rfl rfl ?_
      refine RL.load1 1 rfl eb_ts33 rfl rfl rfl rfl ?_
      refine RL.move rfl rfl rfl ?_
      refine RL.indexAddr rfl eb_tl33 eb_tz3 (congrArg (fun a => some (Value.slice a _ _)) hf) rfl (by omega) (by omega) rfl ?_
      refine RL.loadS rfl rfl (own_one (i := 3) rfl hf eb_ts3 (firmF_get (n := f) (by omega) (by omega))) rfl ?_
      refine RL.assign rfl rfl rfl ?_
      refine RL.nil ?_
      refine NX.seq ?_
      refine TR.block ?_
      refine TR.loopP (ι := Nat) (fun u => s.a.D f ≤ u ∧ u ≤ ((cutB s.a.B s.a.D ks) f).length) (fun u => [(0, .pointer (some ⟨b, 0, none⟩)), (6, .slice z0.1 (filesB s.a.B).length z0.2), (12, I ((atF s.a.B s.a.D ks fl) - 8 * (((looseT s.a.B s.a.D ks y).length + (u - s.a.D f) : Nat) : Int))), (13, I (y : Nat)), (14, I (f : Nat)), (15, I (u : Nat))]) (fun u => Al ((rowsL (filesB s.a.B) (midB s.a.B s.a.D ks fl ((looseT s.a.B s.a.D ks y).length + (u - s.a.D f))) x.X).map (ownR 5)) :: Box b 58 (rfC s) :: OwnSl 27 1 s.ba 64 64 (listV (rowsF (cutB s.a.B s.a.D ks) x.X)) :: OwnSl 3 1 s.fa 64 64 (ints (firmF s.a.D)) :: M) (fun u => ArrF z0.1 (ints (natI (filesB s.a.B))) :: F) (fun u => ((cutB s.a.B s.a.D ks) f).length - u) (s.a.D f) ⟨Nat.le_refl _, by omega⟩ ⟨rfl, rfl, by rw [Nat.sub_self]; rfl, rfl, rfl, rfl, trivial⟩ (fun w hw => (by rw [Nat.sub_self]; exact (hw.to 4 [0, 1, 2, 3] 2 [1] rfl))) (fun u hu => ?_)
      refine TR.seq ?_
      refine TR.seq ?_
      refine TR.region ?_
      refine RL.move rfl rfl rfl ?_
      refine RL.move rfl rfl rfl ?_
      refine RL.nilCheck rfl rfl rfl ?_
      refine RL.fieldAddr rfl eb_tf58_1 rfl rfl ?_
      refine RL.load1 1 rfl eb_ts22 rfl rfl rfl rfl ?_
      refine RL.move rfl rfl rfl ?_
      refine RL.indexAddr rfl eb_tl22 eb_tz27 (congrArg (fun a => some (Value.slice a _ _)) hb) rfl (by omega) (by omega) rfl ?_
      refine RL.loadS rfl rfl (own_one (i := 2) rfl hb eb_ts27 (rowsF_get (n := f) (by omega) (by omega))) rfl ?_
      refine RL.lenSlice rfl eb_tl27 rfl rfl ?_
      refine RL.bin rfl rfl rfl BinV.lss rfl ?_
      refine RL.nil ?_
      refine NX.seq ?_
      refine TR.cond rfl (fun h8 => ?_) (fun h8 => ?_)
      · skip
        have huk : u < ((cutB s.a.B s.a.D ks) f).length := by have := of_decide_eq_true h8; omega
        refine TR.skip ?_
        refine NX.seq ?_
        refine TR.seq ?_
        refine TR.block ?_
        refine TR.seq ?_
        refine TR.seq ?_
        refine TR.region ?_
        refine RL.move rfl rfl rfl ?_
        refine RL.bin rfl rfl rfl BinV.geq rfl ?_
        refine RL.move rfl rfl rfl ?_
        refine RL.part (fun h9 => ?_) (fun h9 => ?_)
        · skip
          have ha0 := of_decide_eq_true h9
          refine RL.move rfl rfl rfl ?_
          refine RL.bin rfl rfl rfl BinV.lss rfl ?_
          refine RL.pickT rfl rfl rfl rfl ?_
          refine RL.nil ?_
          refine NX.seq ?_
          refine TR.cond rfl (fun h10 => ?_) (fun h10 => ?_)
          · skip
            have ha8 := of_decide_eq_true h10
            have hmf := midB_flip (B := s.a.B) (D := s.a.D) (ks := ks) (fl := fl) (a := ((atF s.a.B s.a.D ks fl) - 8 * (((looseT s.a.B s.a.D ks y).length + (u - s.a.D f) : Nat) : Int))) hi (by rw [← hff]; exact hu.1) (by rw [← hff]; exact huk) (by rw [← hff]) ha0 ha8
            rw [← hff] at hmf
            obtain ⟨q, hq⟩ : ∃ q : Nat, ((atF s.a.B s.a.D ks fl) - 8 * (((looseT s.a.B s.a.D ks y).length + (u - s.a.D f) : Nat) : Int)) = q := ⟨(((atF s.a.B s.a.D ks fl) - 8 * (((looseT s.a.B s.a.D ks y).length + (u - s.a.D f) : Nat) : Int))).toNat, by omega⟩
            have hbv : (bytesV ((cutB s.a.B s.a.D ks) f))[0 + ((u : Nat) : Int).toNat * 1]? = some (B8 (((cutB s.a.B s.a.D ks) f)[u]).toNat) := by rw [Nat.zero_add]; exact bytesV_get huk
            have hL : y < ((rowsL (filesB s.a.B) (cutB s.a.B s.a.D ks) x.X).map (ownR 5)).length := by rw [List.length_map, rowsL_len]; exact hi
            refine TR.weak (M' := OwnSl 5 1 (x.X f).oa ((cutB s.a.B s.a.D ks) f).length (x.X f).c (bytesV ((cutB s.a.B s.a.D ks) f)) :: Al (((rowsL (filesB s.a.B) (cutB s.a.B s.a.D ks) x.X).map (ownR 5)).take y) :: Al (((rowsL (filesB s.a.B) (cutB s.a.B s.a.D ks) x.X).map (ownR 5)).drop (y + 1)) :: _) (F' := _) (fun w hw => by
              have h9 := hw
              rw [hmf.1] at h9
              have h8 := h9.alCut y hL
              rw [rowsL_at hL hi, ← hff] at h8
              exact h8) ?_
            refine TR.openP (fun w hw => own_at (i := 0) (M := _ :: _ :: _ :: _ :: _ :: _ :: M) rfl (bytesV_ne huk) hw) (fun g hg => ?_)
            refine TR.sub (E' := [(0, _), (6, _), (12, _), (13, _), (14, _), (15, _), (110, _), (111, _), (112, _), (113, _), (114, _), (115, _), (116, _), (117, _), (118, _), (119, _), (122, _), (123, _), (124, _), (125, _), (126, _), (127, _)]) ⟨rfl, rfl, rfl, rfl, rfl, rfl, rfl, rfl, rfl, rfl, rfl, rfl, rfl, rfl, rfl, rfl, rfl, rfl, rfl, rfl, rfl, rfl, trivial⟩ ?_
            refine TR.draw mixed ?_
            apply AR.more [(0, _), (1, _), (2, _), (3, _), (4, _), (5, _), (6, _), (7, _), (8, _), (9, _), (10, _), (11, _), (12, _), (13, _), (14, _), (15, _), (16, _), (17, _), (18, _), (19, _), (20, _), (21, _), (22, _), (23, _)]
            refine AR.eff [0, 1, 2, 3, 4, 5, 6, 7, 8, 9, 10, 11, 12, 13, 14, 15, 16, 17, 18, 19, 20, 21, 22, 23] 24 [0, 1, 2, 3, 4, 5, 6, 7, 8, 9, 10, 11, 12, 13, 14, 15, 16, 17, 18, 19, 20, 21, 22, 23, 24] ⟨QOne.yes rfl rfl rfl (PV.move rfl), QOne.yes rfl rfl rfl (PV.nilCheck rfl), QOne.yes rfl rfl rfl (PV.fieldAddr eb_tf58_1 rfl), QOne.yes rfl rfl rfl (PV.load1 3 eb_ts22 rfl rfl rfl), QOne.yes rfl rfl rfl (PV.move rfl), QOne.yes rfl rfl rfl (PV.indexAddr eb_tl22 eb_tz27 (congrArg (fun a => some (Value.slice a _ _)) hb) rfl (by omega) (by omega)), QOne.yes rfl rfl rfl (PV.loadS rfl (own_one (i := 4) rfl hb eb_ts27 (rowsF_get (n := f) (by omega) (by omega)))), QOne.yes rfl rfl rfl (PV.move rfl), QOne.yes rfl rfl rfl (PV.move rfl), QOne.yes rfl rfl rfl (PV.nilCheck rfl), QOne.yes rfl rfl rfl (PV.fieldAddr eb_tf58_1 rfl), QOne.yes rfl rfl rfl (PV.load1 3 eb_ts22 rfl rfl rfl), QOne.yes rfl rfl rfl (PV.move rfl), QOne.yes rfl rfl rfl (PV.indexAddr eb_tl22 eb_tz27 (congrArg (fun a => some (Value.slice a _ _)) hb) rfl (by omega) (by omega)), QOne.yes rfl rfl rfl (PV.loadS rfl (own_one (i := 4) rfl hb eb_ts27 (rowsF_get (n := f) (by omega) (by omega)))), QOne.yes rfl rfl rfl (PV.move rfl), QOne.yes rfl rfl rfl (PV.indexAddr eb_tl27 eb_tz5 (congrArg (fun a => some (Value.slice a _ _)) hg) rfl (by omega) (by omega)), QOne.yes rfl rfl rfl (PV.loadS rfl (own_one (i := 0) rfl hg eb_ts5 hbv)), QOne.yes rfl rfl rfl (PV.move rfl), QOne.yes rfl rfl rfl (PV.bin rfl rfl (BinV.sub ((7 - q : Nat) : Int) (by omega) (by omega) (by omega))), QOne.yes rfl rfl rfl (PV.conv rfl ((ConvV.iu64 eb_ti3 eb_ti75).to (v'' := U (7 - q)) (by rw [show u64of ((7 - q : Nat) : Int) = 7 - q by unfold u64of; omega]))), QOne.yes rfl rfl rfl (PV.bin rfl rfl (BinV.shlB (a := 1) (s := 7 - q) (by omega))), QOne.yes rfl rfl rfl (PV.bin rfl rfl (BinV.xorB (a := (((cutB s.a.B s.a.D ks) f)[u]).toNat) (b := 1 * 2 ^ (7 - q) % 256) (UInt8.toNat_lt _) (Nat.mod_lt _ (by decide)))), QOne.yes rfl rfl rfl (PV.indexAddr eb_tl27 eb_tz5 (congrArg (fun a => some (Value.slice a _ _)) hg) rfl (by omega) (by omega)), trivial⟩ rfl rfl rfl rfl rfl rfl rfl (EV.storeO (vs := [B8 ((((cutB s.a.B s.a.D ks) f)[u]).toNat ^^^ (1 * 2 ^ (7 - q) % 256))]) 0 rfl rfl rfl hg eb_tz5 rfl (by rw [bytesV_length]; show 0 + u * 1 + 1 ≤ _; omega) rfl) (fun _ => ?_)
            refine AR.done [23, 22, 0, 1, 2, 3, 4, 5, 6, 7, 8, 9, 10, 11, 12, 13, 14, 15, 16, 17, 18, 19, 20, 21] rfl ?_
            refine AR.last [] [0, 1, 2, 3, 4, 5, 6, 7, 8, 9, 10, 11, 12, 13, 14, 15, 16, 17, 18, 19, 20, 21, 22, 23, 24] trivial rfl rfl rfl ?_
            refine NX.sub (E' := [(0, _), (6, _), (12, _), (13, _), (14, _), (15, _), (110, _), (111, _), (112, _), (113, _), (114, _), (115, _), (116, _), (117, _), (118, _), (119, _), (122, _), (123, _), (124, _), (125, _), (126, _), (127, _), (128, _), (129, _), (130, _), (131, _), (132, _), (133, _), (134, _), (135, _), (136, _), (137, _), (138, _), (139, _), (140, _), (141, _), (142, _), (143, _), (144, _), (145, _), (146, _), (147, _), (148, _), (149, _), (150, _), (151, _)]) ⟨rfl, rfl, rfl, rfl, rfl, rfl, rfl, rfl, rfl, rfl, rfl, rfl, rfl, rfl, rfl, rfl, rfl, rfl, rfl, rfl, rfl, rfl, rfl, rfl, rfl, rfl, rfl, rfl, rfl, rfl, rfl, rfl, rfl, rfl, rfl, rfl, rfl, rfl, rfl, rfl, rfl, rfl, rfl, rfl, rfl, rfl, trivial⟩ ?_
            refine NX.seq ?_
            refine TR.region ?_
            refine RL.move rfl rfl rfl ?_
            refine RL.bin rfl rfl rfl (BinV.sub ((atF s.a.B s.a.D ks fl) - 8 * (((looseT s.a.B s.a.D ks y).length + (u + 1 - s.a.D f) : Nat) : Int)) (by omega) (by omega) (by omega)) rfl ?_
            refine RL.assign rfl rfl rfl ?_
            refine RL.nil ?_
            refine NX.off ?_
            refine NX.seq ?_
            refine TR.region ?_
            refine RL.move rfl rfl rfl ?_
            refine RL.bin rfl rfl rfl (BinV.add ((u + 1 : Nat) : Int) (by omega) (by omega) (by omega)) rfl ?_
            refine RL.assign rfl rfl rfl ?_
            refine RL.nil ?_
            refine NX.roundP (u + 1) ⟨by have := hu.1; omega, by omega⟩ (by omega) ⟨rfl, rfl, rfl, rfl, rfl, rfl, trivial⟩ (fun w hw => (by
                    rw [show (looseT s.a.B s.a.D ks y).length + (u + 1 - s.a.D f) = (looseT s.a.B s.a.D ks y).length + (u - s.a.D f) + 1 by have := hu.1; omega, hmf.2, show (((atF s.a.B s.a.D ks fl) - 8 * (((looseT s.a.B s.a.D ks y).length + (u - s.a.D f) : Nat) : Int))).toNat = q by omega]
                    have h9 : St w (OwnSl 5 1 (x.X f).oa ((cutB s.a.B s.a.D ks) f).length (x.X f).c ((bytesV ((cutB s.a.B s.a.D ks) f)).take (0 + ((u : Nat) : Int).toNat * 1) ++ [B8 ((((cutB s.a.B s.a.D ks) f)[u]).toNat ^^^ (1 * 2 ^ (7 - q) % 256))] ++ (bytesV ((cutB s.a.B s.a.D ks) f)).drop (0 + ((u : Nat) : Int).toNat * 1 + 1)) :: Al (((rowsL (filesB s.a.B) (cutB s.a.B s.a.D ks) x.X).map (ownR 5)).take y) :: Al (((rowsL (filesB s.a.B) (cutB s.a.B s.a.D ks) x.X).map (ownR 5)).drop (y + 1)) :: Box b 58 (rfC s) :: OwnSl 27 1 s.ba 64 64 (listV (rowsF (cutB s.a.B s.a.D ks) x.X)) :: OwnSl 3 1 s.fa 64 64 (ints (firmF s.a.D)) :: M) (ArrF z0.1 (ints (natI (filesB s.a.B))) :: F) := (hw.to 6 [0, 1, 2, 3, 4, 5] 1 [0] rfl)
                    rw [turn_store huk, ← turnB_len ((cutB s.a.B s.a.D ks) f) u q] at h9
                    have h8 := h9.alJoin
                    rw [hff] at h8
                    rw [rowsL_put hi (filesB_nodup _) _] at h8
                    rw [hff]
                    exact h8))
          · skip
            have hsk : ¬ (0 ≤ ((atF s.a.B s.a.D ks fl) - 8 * (((looseT s.a.B s.a.D ks y).length + (u - s.a.D f) : Nat) : Int)) ∧ ((atF s.a.B s.a.D ks fl) - 8 * (((looseT s.a.B s.a.D ks y).length + (u - s.a.D f) : Nat) : Int)) < 8) := fun e => (of_decide_eq_false h10) e.2
            refine TR.skip ?_
            refine NX.seq ?_
            refine TR.region ?_
            refine RL.move rfl rfl rfl ?_
            refine RL.bin rfl rfl rfl (BinV.sub ((atF s.a.B s.a.D ks fl) - 8 * (((looseT s.a.B s.a.D ks y).length + (u + 1 - s.a.D f) : Nat) : Int)) (by omega) (by omega) (by omega)) rfl ?_
            refine RL.assign rfl rfl rfl ?_
            refine RL.nil ?_
            refine NX.off ?_
            refine NX.seq ?_
            refine TR.region ?_
            refine RL.move rfl rfl rfl ?_
            refine RL.bin rfl rfl rfl (BinV.add ((u + 1 : Nat) : Int) (by omega) (by omega) (by omega)) rfl ?_
            refine RL.assign rfl rfl rfl ?_
            refine RL.nil ?_
            refine NX.roundP (u + 1) ⟨by have := hu.1; omega, by omega⟩ (by omega) ⟨rfl, rfl, rfl, rfl, rfl, rfl, trivial⟩ (fun w hw => (by rw [show (looseT s.a.B s.a.D ks y).length + (u + 1 - s.a.D f) = (looseT s.a.B s.a.D ks y).length + (u - s.a.D f) + 1 by have := hu.1; omega, midB_skip (a := ((atF s.a.B s.a.D ks fl) - 8 * (((looseT s.a.B s.a.D ks y).length + (u - s.a.D f) : Nat) : Int))) rfl hsk]; exact (hw.to 4 [0, 1, 2, 3] 1 [0] rfl)))
        · skip
          have hsk : ¬ (0 ≤ ((atF s.a.B s.a.D ks fl) - 8 * (((looseT s.a.B s.a.D ks y).length + (u - s.a.D f) : Nat) : Int)) ∧ ((atF s.a.B s.a.D ks fl) - 8 * (((looseT s.a.B s.a.D ks y).length + (u - s.a.D f) : Nat) : Int)) < 8) := fun e => (of_decide_eq_false h9) e.1
          refine RL.skip rfl rfl rfl ?_
          refine RL.skip rfl rfl rfl ?_
          refine RL.pickF rfl rfl rfl rfl ?_
          refine RL.nil ?_
          refine NX.seq ?_
          refine TR.condF rfl ?_
          refine TR.skip ?_
          refine NX.seq ?_
          refine TR.region ?_
          refine RL.move rfl rfl rfl ?_
          refine RL.bin rfl rfl rfl (BinV.sub ((atF s.a.B s.a.D ks fl) - 8 * (((looseT s.a.B s.a.D ks y).length + (u + 1 - s.a.D f) : Nat) : Int)) (by omega) (by omega) (by omega)) rfl ?_
          refine RL.assign rfl rfl rfl ?_
          refine RL.nil ?_
          refine NX.off ?_
          refine NX.seq ?_
          refine TR.region ?_
          refine RL.move rfl rfl rfl ?_
          refine RL.bin rfl rfl rfl (BinV.add ((u + 1 : Nat) : Int) (by omega) (by omega) (by omega)) rfl ?_
          refine RL.assign rfl rfl rfl ?_
          refine RL.nil ?_
          refine NX.roundP (u + 1) ⟨by have := hu.1; omega, by omega⟩ (by omega) ⟨rfl, rfl, rfl, rfl, rfl, rfl, trivial⟩ (fun w hw => (by rw [show (looseT s.a.B s.a.D ks y).length + (u + 1 - s.a.D f) = (looseT s.a.B s.a.D ks y).length + (u - s.a.D f) + 1 by have := hu.1; omega, midB_skip (a := ((atF s.a.B s.a.D ks fl) - 8 * (((looseT s.a.B s.a.D ks y).length + (u - s.a.D f) : Nat) : Int))) rfl hsk]; exact (hw.to 4 [0, 1, 2, 3] 1 [0] rfl)))
      · skip
        have hue : u = ((cutB s.a.B s.a.D ks) f).length := by have := of_decide_eq_false h8; omega
        refine TR.exit ?_
        refine NX.exitThen ?_
        refine NX.exitThen ?_
        refine NX.exitHere ?_
        refine NX.off ?_
        refine NX.seq ?_
        refine TR.region ?_
        refine RL.move rfl rfl rfl ?_
        refine RL.bin rfl rfl rfl (BinV.add ((y + 1 : Nat) : Int) (by omega) (by omega) (by omega)) rfl ?_
        refine RL.assign rfl rfl rfl ?_
        refine RL.nil ?_
        have hj : (looseT s.a.B s.a.D ks y).length + (u - s.a.D f) = (looseT s.a.B s.a.D ks (y + 1)).length := by have := hu.1; omega
        refine NX.roundP (y + 1) ⟨by omega, trivial⟩ (by omega) ⟨rfl, rfl, by rw [← hj]; rfl, rfl, trivial⟩ (fun w hw => (by rw [← hj]; exact (hw.to 4 [0, 1, 2, 3] 1 [0] rfl)))
    · skip
      have hye : y = (filesB s.a.B).length := by have := of_decide_eq_false h7; omega
      have hmid : rowsL (filesB s.a.B) (midB s.a.B s.a.D ks fl (looseT s.a.B s.a.D ks y).length) x.X = rowsL (filesB s.a.B) (crashB s.a.B s.a.D ks fl) x.X := rowsL_cg fun n hn => ⟨by rw [hye, looseT_all]; exact midB_end, rfl⟩
      refine TR.exit ?_
      refine NX.exitThen ?_
      refine NX.exitThen ?_
      refine NX.exitHere ?_
      refine NX.seq ?_
      refine TR.seq ?_
      refine TR.seq ?_
      refine TR.weak (M' := Al ((rowsL (filesB s.a.B) (crashB s.a.B s.a.D ks fl) x.X).map (ownR 5)) :: _) (F' := _) (fun w hw => by rw [← hmid]; exact hw) ?_
      refine TR.open1 (fun w hw => hw.alOpen.keepAll) (fun hcaps => ?_)
      refine TR.weak (fun w hw => hw.allB_files (.head _) (fun n hn e => by have h7 := crashB_len s.a.B s.a.D ks fl n; have h6 := cutB_len s.a.B s.a.D ks n; rw [e, List.length_nil] at h6; exact List.eq_nil_of_length_eq_zero (by omega))) ?_
      have e0 : syncD { s.a with B := (crashB s.a.B s.a.D ks fl) } 0 = s.a.D := funext fun k => if_neg (Nat.not_lt_zero k)
      refine TR.region ?_
      refine RL.assign rfl rfl rfl ?_
      refine RL.nil ?_
      refine NX.seq ?_
      refine TR.block ?_
      refine TR.loopP (ι := Nat) (fun v => v ≤ 64 ∧ True) (fun v => [(0, .pointer (some ⟨b, 0, none⟩)), (16, I (v : Nat))]) (fun v => Box b 58 (rfC s) :: OwnSl 27 1 s.ba 64 64 (listV (rowsF (cutB s.a.B s.a.D ks) x.X)) :: OwnSl 3 1 s.fa 64 64 (ints (firmF (syncD { s.a with B := (crashB s.a.B s.a.D ks fl) } v))) :: M) (fun v => AllB (rowsF (crashB s.a.B s.a.D ks fl) x.X) :: F) (fun v => 64 - v) 0 ⟨Nat.zero_le _, trivial⟩ ⟨rfl, rfl, trivial⟩ (fun w hw => (by rw [e0]; exact (hw.to 3 [0, 1, 2] 3 [0] rfl))) (fun v hv => ?_)
      refine TR.seq ?_
      refine TR.seq ?_
      refine TR.region ?_
      refine RL.move rfl rfl rfl ?_
      refine RL.bin rfl rfl rfl BinV.lss rfl ?_
      refine RL.nil ?_
      refine NX.seq ?_
      refine TR.cond rfl (fun h11 => ?_) (fun h11 => ?_)
      · skip
        have hlt : v < 64 := by have := of_decide_eq_true h11; omega
        have hrl : ((cutB s.a.B s.a.D ks) v).length ≤ 16777216 := by have := used_one (B := s.a.B) hlt; have := h.us; have := h.rm; have := cutB_len s.a.B s.a.D ks v; omega
        have hcl2 := crashB_len s.a.B s.a.D ks fl v
        refine TR.skip ?_
        refine NX.seq ?_
        refine TR.seq ?_
        refine TR.block ?_
        refine TR.sub (E' := [(0, _), (16, _), (154, _), (155, _)]) ⟨rfl, rfl, rfl, rfl, trivial⟩ ?_
        refine TR.draw mixed ?_
        apply AR.more [(0, _), (1, _), (2, _), (3, _), (4, _), (5, _), (6, _), (7, _), (8, _), (9, _), (10, _), (11, _), (12, _), (13, _)]
        refine AR.eff [0, 1, 2, 3, 4, 5, 6, 7, 8, 9, 10, 11, 12, 13] 14 [0, 1, 2, 3, 4, 5, 6, 7, 8, 9, 10, 11, 12, 13, 14] ⟨QOne.yes rfl rfl rfl (PV.move rfl), QOne.yes rfl rfl rfl (PV.nilCheck rfl), QOne.yes rfl rfl rfl (PV.fieldAddr eb_tf58_2 rfl), QOne.yes rfl rfl rfl (PV.load1 0 eb_ts33 rfl rfl rfl), QOne.yes rfl rfl rfl (PV.move rfl), QOne.yes rfl rfl rfl (PV.move rfl), QOne.yes rfl rfl rfl (PV.nilCheck rfl), QOne.yes rfl rfl rfl (PV.fieldAddr eb_tf58_1 rfl), QOne.yes rfl rfl rfl (PV.load1 0 eb_ts22 rfl rfl rfl), QOne.yes rfl rfl rfl (PV.move rfl), QOne.yes rfl rfl rfl (PV.indexAddr eb_tl22 eb_tz27 (congrArg (fun a => some (Value.slice a _ _)) hb) rfl (by omega) (by omega)), QOne.yes rfl rfl rfl (PV.loadS rfl (own_one (i := 1) rfl hb eb_ts27 (rowsF_get (n := v) (by omega) (by omega)))), QOne.yes rfl rfl rfl (PV.lenSlice eb_tl27 rfl), QOne.yes rfl rfl rfl (PV.indexAddr eb_tl33 eb_tz3 (congrArg (fun a => some (Value.slice a _ _)) hf) rfl (by omega) (by omega)), trivial⟩ rfl rfl rfl rfl rfl rfl rfl (EV.storeFirm (n := v) (m := ((crashB s.a.B s.a.D ks fl) v).length) 2 rfl rfl rfl hf eb_tz3 (by omega) (by rw [hcl2]) (by omega)) (fun _ => ?_)
        refine AR.done [13, 12, 0, 1, 2, 3, 4, 5, 6, 7, 8, 9, 10, 11] rfl ?_
        refine AR.last [] [0, 1, 2, 3, 4, 5, 6, 7, 8, 9, 10, 11, 12, 13, 14] trivial rfl rfl rfl ?_
        refine NX.sub (E' := [(0, _), (16, _), (154, _), (155, _), (158, _), (159, _), (160, _), (161, _), (162, _), (163, _), (164, _), (165, _), (166, _), (167, _), (168, _), (169, _), (170, _), (171, _)]) ⟨rfl, rfl, rfl, rfl, rfl, rfl, rfl, rfl, rfl, rfl, rfl, rfl, rfl, rfl, rfl, rfl, rfl, rfl, trivial⟩ ?_
        refine NX.off ?_
        refine NX.seq ?_
        refine TR.region ?_
        refine RL.move rfl rfl rfl ?_
        refine RL.bin rfl rfl rfl (BinV.add ((v + 1 : Nat) : Int) (by omega) (by omega) (by omega)) rfl ?_
        refine RL.assign rfl rfl rfl ?_
        refine RL.nil ?_
        refine NX.roundP (v + 1) ⟨by omega, trivial⟩ (by omega) ⟨rfl, rfl, trivial⟩ (fun w hw => (by rw [syncD_succ]; exact hw))
      · skip
        have hge := of_decide_eq_false h11
        refine TR.exit ?_
        refine NX.exitThen ?_
        refine NX.exitThen ?_
        refine NX.exitHere ?_
        refine NX.seq ?_
        refine TR.seq ?_
        refine TR.region ?_
        refine RL.move rfl rfl rfl ?_
        refine RL.nilCheck rfl rfl rfl ?_
        refine RL.fieldAddr rfl eb_tf58_3 rfl rfl ?_
        refine RL.store1 0 rfl eb_ts4 rfl rfl rfl rfl rfl ?_
        refine RL.nil ?_
        refine NX.seq ?_
        refine TR.region ?_
        refine RL.move rfl rfl rfl ?_
        refine RL.nilCheck rfl rfl rfl ?_
        refine RL.fieldAddr rfl eb_tf58_4 rfl rfl ?_
        refine RL.store1 0 rfl eb_ts3 rfl rfl rfl rfl rfl ?_
        refine RL.nil ?_
        have hcq : ∀ n, n < 64 → ((crashB s.a.B s.a.D ks fl) n).length ≤ (x.X n).c := fun n hn => by
          by_cases e : n ∈ (filesB s.a.B)
          · exact hcaps ((crashB s.a.B s.a.D ks fl) n, x.X n) (List.mem_map.2 ⟨n, e, rfl⟩)
          · have h7 := crashB_len s.a.B s.a.D ks fl n
            have h6 := cutB_len s.a.B s.a.D ks n
            rw [nil_of_not hn e, List.length_nil] at h6
            omega
        have hv64 : v = 64 := by have := hv.1; omega
        refine NX.end0 ⟨{ s with a := crashA s.a ks fl, x := x.X, pl := -1 }, h.crash hcq, rfl⟩ rfl rfl (fun w hw => ?_)
        have e1 : listV (rowsF (crashB s.a.B s.a.D ks fl) x.X) = listV (rowsF (cutB s.a.B s.a.D ks) x.X) := listV_cg fun n hn => crashB_len _ _ _ _ _
        have e2 : firmF (fun k => ((crashB s.a.B s.a.D ks fl) k).length) = firmF (syncD { s.a with B := (crashB s.a.B s.a.D ks fl) } v) := firmF_cg fun n hn => by rw [hv64]; exact (if_pos hn).symm
        show St w (Box b 58 (rfC { s with a := crashA s.a ks fl, x := x.X, pl := -1 }) :: OwnSl 27 1 s.ba 64 64 (listV (rowsF (crashB s.a.B s.a.D ks fl) x.X)) :: OwnSl 3 1 s.fa 64 64 (ints (firmF (fun k => ((crashB s.a.B s.a.D ks fl) k).length))) :: M) (AllB (rowsF (crashB s.a.B s.a.D ks fl) x.X) :: F)
        rw [e1, e2]
        exact (hw.to 3 [0, 1, 2] 1 [0] rfl)

end Go.Proofs.Ytdnjoffkanjjhaa

namespace Go.GL
set_option linter.unusedVariables false
structure OpX where
  k : Int
  f : Int
  n : Int
  b : List UInt8
  ob : Option Addr
  cb : Nat
  ks : List Int
  ok : Option Addr
  ck : Nat
def OpX.c (o : OpX) : List Value := [I o.k, I o.f, I o.n, .slice o.ob o.b.length o.cb, .slice o.ok o.ks.length o.ck]
def opsV (l : List OpX) : List Value := l.flatMap OpX.c
def AllO (l : List OpX) : Fact := ⟨fun w K => ∀ o, o ∈ l → ArrAt w K o.ob (bytesV o.b) ∧ ArrAt w K o.ok (ints o.ks), fun h e o ho => ⟨(h o ho).1.mono e, (h o ho).2.mono e⟩⟩
structure OpOk (o : OpX) : Prop where
  f0 : -8 ≤ o.f
  f1 : o.f ≤ 100
  n0 : -4 ≤ o.n
  n1 : o.n ≤ 100
  nk : o.k = 3 → -1 ≤ o.n
  b : o.b.length ≤ 8
  kl : o.ks.length ≤ 4
  kv : ∀ v, v ∈ o.ks → -100 ≤ v ∧ v ≤ 100
theorem opsV_len (l : List OpX) : (opsV l).length = l.length * 5 := by
  induction l with
  | nil => rfl
  | cons o l ih => rw [opsV, List.flatMap_cons, List.length_append, List.length_cons]; rw [opsV] at ih; rw [ih]; simp [OpX.c]; omega
theorem opsV_snoc (l : List OpX) (o : OpX) : opsV (l ++ [o]) = opsV l ++ o.c := by unfold opsV; rw [List.flatMap_append]; simp
theorem opsV_one (l : List OpX) : (opsV l).all Value.oneCell' = true := by
  induction l with
  | nil => rfl
  | cons o l ih => rw [opsV, List.flatMap_cons, List.all_append]; rw [opsV] at ih; rw [ih]; rfl
theorem opsV_ne {l : List OpX} {i : Nat} (h : i < l.length) : opsV l ≠ [] := fun e => by have := opsV_len l; rw [e] at this; simp at this; omega
theorem opsV_at {l : List OpX} {i : Nat} (h : i < l.length) (j : Nat) (v : Value) (hv : (l[i].c)[j]? = some v) : (opsV l)[((i : Nat) : Int).toNat * 5 + j]? = some v := by
  rw [Int.toNat_natCast]
  have e : opsV l = opsV (l.take i) ++ (l[i].c ++ opsV (l.drop (i + 1))) := by
    have e2 : l = l.take i ++ (l[i] :: l.drop (i + 1)) := by rw [← List.drop_eq_getElem_cons h, List.take_append_drop]
    exact (congrArg opsV e2).trans (by unfold opsV; rw [List.flatMap_append, List.flatMap_cons])
  rw [e]
  have hl := opsV_len (l.take i)
  rw [List.length_take, Nat.min_eq_left (by omega)] at hl
  rw [← hl]
  exact get_mid hv
theorem St.allO_nil {w : World} {M : List HP} {F : List Fact} (h : St w M F) : St w M (AllO [] :: F) := h.addFact (AllO []) (fun K _ p hp => by cases hp)
theorem St.allO_snoc {w : World} {M : List HP} {F : List Fact} {l : List OpX} {o : OpX} (hA : AllO l ∈ F) (hb : ArrF o.ob (bytesV o.b) ∈ F) (hk : ArrF o.ok (ints o.ks) ∈ F) (h : St w M F) : St w M (AllO (l ++ [o]) :: F) := h.derive fun K hf q hq => by
  rcases List.mem_append.1 hq with hq | hq
  · exact hf _ hA q hq
  · rw [List.mem_singleton.1 hq]; exact ⟨hf _ hb, hf _ hk⟩
theorem St.allO_get {w : World} {M : List HP} {F : List Fact} {l : List OpX} {o : OpX} (hA : AllO l ∈ F) (ho : o ∈ l) (h : St w M F) : St w M (ArrF o.ob (bytesV o.b) :: ArrF o.ok (ints o.ks) :: F) :=
  (h.derive (ψ := ArrF o.ok (ints o.ks)) fun K hf => (hf _ hA o ho).2).derive fun K hf => (hf _ (.tail _ hA) o ho).1
theorem St.cutI {w : World} {M : List HP} {F : List Fact} {oa : Option Addr} {cap : Nat} {l : List Int} (k : Nat) (hc : l.length ≤ cap) (hF : ArrF oa (ints l) ∈ F) (h : St w M F) : St w M (ArrF (cutA oa 0 cap 1) (ints (l.take k)) :: F) :=
  h.derive fun K hf => by
    have h9 := ArrAt.cut (size := 1) (cap := cap) (n := l.length) (hf _ hF) 0 (min k l.length) (by simp) (Nat.min_le_right _ _) hc
    have e : ints (l.take k) = (ints l).take (min k l.length) := by
      unfold ints
      rw [← List.map_take]
      congr 1
      rw [Nat.min_def]
      split
      · rfl
      · rw [List.take_of_length_le (Nat.le_refl _), List.take_of_length_le (by omega)]
    simp only [Nat.mul_one, List.drop_zero] at h9
    show ArrAt _ _ _ _
    rw [e]
    exact h9
/-- an operation on the abstract disk -/
def opA (a : Am) (o : OpX) : Int × Am :=
  if o.k = 0 then appA a o.f o.b else if o.k = 1 then syncA a else if o.k = 2 then truncA a o.f o.n else if o.k = 3 then (0, armA a o.n) else (0, crashA a o.ks o.n)
theorem byte_wrap (x : Int) : IntKind.u8.wrap x = ((IntKind.u8.wrap x).toNat : Int) ∧ (IntKind.u8.wrap x).toNat < 256 := by
  have h : 0 ≤ IntKind.u8.wrap x ∧ IntKind.u8.wrap x < 256 := by
    have e : IntKind.u8.wrap x = x % 256 := by
      have h1 : IntKind.u8.signed = false := rfl
      simp [IntKind.wrap, IntKind.bits, h1]
    rw [e]; omega
  omega
theorem tdiv16 {x : Int} (h0 : -9223372036854775808 ≤ x) (h1 : x ≤ 9223372036854775807) : -9223372036854775808 ≤ x.tdiv 16 ∧ x.tdiv 16 ≤ 9223372036854775807 := by
  by_cases h : 0 ≤ x
  · rw [Int.tdiv_eq_ediv_of_nonneg h]; omega
  · obtain ⟨y, rfl⟩ : ∃ y, x = -y := ⟨-x, by omega⟩
    rw [Int.neg_tdiv, Int.tdiv_eq_ediv_of_nonneg (by omega)]; omega
section
variable {P : Program} {M : List HP} {F : List Fact} {T eS eI c : Nat} {r : Rf}
theorem rf_cell {i j t : Nat} {v : Value} (hi : M[i]? = some (RfB T eS eI c r)) (hT : tyScalar P t = true) (hv : (rfC r)[j]? = some v) : ∀ w, St w M F → Reads P w t ⟨c, j, none⟩ v := fun w hw => by
  have h1 := (hw.front hi).rfOpen
  exact run_loadVar_scalar hT ((cell_of_box (h1.heap (i := 0) rfl)).trans hv)
theorem rf_at {i : Nat} (hi : M[i]? = some (RfB T eS eI c r)) : ∀ w, St w M F → ∃ g, r.ba = some ⟨g, 0, none⟩ ∧ St w M F := fun w hw => by
  obtain ⟨g, hg, _⟩ := own_at (i := 1) rfl (rowsF_ne _ _) (hw.front hi).rfOpen
  exact ⟨g, hg, hw⟩
theorem rf_row {i t g n : Nat} {u : Int} (hi : M[i]? = some (RfB T eS eI c r)) (hg : r.ba = some ⟨g, 0, none⟩) (hT : tyScalar P t = true) (hu : u = n) (hn : n < 64) : ∀ w, St w M F → Reads P w t ⟨g, 0 + u.toNat * 1, none⟩ (.slice (r.x n).oa (r.a.B n).length (r.x n).c) := fun w hw => by
  have h1 := (hw.front hi).rfOpen
  exact own_one (i := 1) rfl hg hT (rowsF_get hu hn) w h1
theorem ops_at {l : List OpX} {i : Nat} {u : Int} (hu : u = i) (h : i < l.length) (j : Nat) (v : Value) (hv : (l[i].c)[j]? = some v) : (opsV l)[0 + u.toNat * 5 + j]? = some v := by
  subst hu; rw [Nat.zero_add]; exact opsV_at h j v hv
end
end Go.GL

namespace Go.Proofs.Ytdnjoffkanjjhaa
open Go.GL
set_option linter.unusedVariables false
theorem ec_bs27_1_0 (x0 : Int) : BuildSV Try.prog 27 5 1 [(0, .int .u8 x0)] [.int .u8 x0] := fun w => by kernel_rfl
theorem ec_bs33_3_0_1_2 (x0 : Int) (x1 : Int) (x2 : Int) : BuildSV Try.prog 33 3 3 [(0, .int .i64 x0), (1, .int .i64 x1), (2, .int .i64 x2)] [.int .i64 x0, .int .i64 x1, .int .i64 x2] := fun w => by kernel_rfl
theorem ec_bs44_1_0 (x00 : Int) (x01 : Int) (x02 : Int) (x03 : Option Addr) (x03n x03c : Nat) (x04 : Option Addr) (x04n x04c : Nat) : BuildSV Try.prog 44 48 1 [(0, .agg #[.int .i64 x00, .int .i64 x01, .int .i64 x02, .slice x03 x03n x03c, .slice x04 x04n x04c])] [.int .i64 x00, .int .i64 x01, .int .i64 x02, .slice x03 x03n x03c, .slice x04 x04n x04c] := fun w => by kernel_rfl
theorem ec_bv48_1 (x1 : Int) : BuildV Try.prog 48 [(1, .int .i64 x1)] (.agg #[.int .i64 0, .int .i64 x1, .int .i64 0, .slice none 0 0, .slice none 0 0]) := fun w => by kernel_rfl
theorem ec_ni27 : noInt Try.prog 27 = true := by kernel_rfl
theorem ec_ni44 : noInt Try.prog 44 = true := by kernel_rfl
theorem ec_ta48 : tyAgg Try.prog 48 5 = true := by kernel_rfl
theorem ec_te48 : tyElem Try.prog 48 5 72 = true := by kernel_rfl
theorem ec_te5 : tyElem Try.prog 5 1 1 = true := by kernel_rfl
theorem ec_tf48_0 : fieldOff Try.prog 48 0 0 = true := by kernel_rfl
theorem ec_tf48_1 : fieldOff Try.prog 48 1 1 = true := by kernel_rfl
theorem ec_tf48_2 : fieldOff Try.prog 48 2 2 = true := by kernel_rfl
theorem ec_tf48_3 : fieldOff Try.prog 48 3 3 = true := by kernel_rfl
theorem ec_tf48_4 : fieldOff Try.prog 48 4 4 = true := by kernel_rfl
theorem ec_ti3 : tyInt Try.prog 3 .i64 = true := by kernel_rfl
theorem ec_ti5 : tyInt Try.prog 5 .u8 = true := by kernel_rfl
theorem ec_ti75 : tyInt Try.prog 75 .u64 = true := by kernel_rfl
theorem ec_tl27 : tySlice Try.prog 27 5 = true := by kernel_rfl
theorem ec_tl33 : tySlice Try.prog 33 3 = true := by kernel_rfl
theorem ec_tl44 : tySlice Try.prog 44 48 = true := by kernel_rfl
theorem ec_ts27 : tyScalar Try.prog 27 = true := by kernel_rfl
theorem ec_ts3 : tyScalar Try.prog 3 = true := by kernel_rfl
theorem ec_ts33 : tyScalar Try.prog 33 = true := by kernel_rfl
theorem ec_tz3 : tySize Try.prog 3 1 = true := by kernel_rfl
theorem ec_tz48 : tySize Try.prog 48 5 = true := by kernel_rfl
structure OsX where
  i : Nat
  l : List OpX
  oa : Option Addr
  c : Nat
structure ObX where
  b : List UInt8
  oa : Option Addr
  c : Nat

set_option maxHeartbeats 4000000 in
theorem ops_spec {xs : List Int} {oa : Option Addr} {ca : Nat} {M : List HP} {F : List Fact} (ha : ArrF oa (ints xs) ∈ F) (hok : IntsOk xs) : Ctr Try.prog 22 [.slice oa xs.length ca] M F {z : List OpX × Option Addr × Nat // z.1.length ≤ 16 ∧ ∀ o, o ∈ z.1 → OpOk o} (fun z => .slice z.1.2.1 z.1.1.length z.1.2.2) (fun z => OwnSl 48 5 z.1.2.1 z.1.1.length z.1.2.2 (opsV z.1.1) :: M) (fun z => AllO z.1.1 :: F) := by
  refine Ctr.body Try.func22 rfl rfl ?_
  refine TR.seq ?_
  refine TR.region ?_
  refine RL.assign rfl rfl rfl ?_
  refine RL.nil ?_
  refine NX.seq ?_
  refine TR.seq ?_
  refine TR.region ?_
  refine RL.assign rfl rfl rfl ?_
  refine RL.nil ?_
  refine NX.seq ?_
  refine TR.seq ?_
  refine TR.seq ?_
  refine TR.region ?_
  refine RL.assign rfl rfl rfl ?_
  refine RL.nil ?_
  refine NX.seq ?_
  refine TR.block ?_
  refine TR.loopP (ι := OsX) (fun x => x.i ≤ 16 ∧ x.l.length = x.i ∧ ∀ o, o ∈ x.l → OpOk o) (fun x => [(0, .slice oa xs.length ca), (3, .slice x.oa x.l.length x.c), (4, I (x.i : Nat))]) (fun x => OwnSl 48 5 x.oa x.l.length x.c (opsV x.l) :: M) (fun x => AllO x.l :: F) (fun x => 16 - x.i) ⟨0, [], none, 0⟩ ⟨Nat.zero_le _, rfl, fun o ho => by cases ho⟩ ⟨rfl, rfl, rfl, trivial⟩ (fun w hw => (OwnSl.nil_new 48 5 hw).allO_nil) (fun x hx => ?_)
  refine TR.seq ?_
  refine TR.seq ?_
  refine TR.region ?_
  refine RL.move rfl rfl rfl ?_
  refine RL.move rfl rfl rfl ?_
  refine RL.lenSlice rfl ec_tl33 rfl rfl ?_
  refine RL.bin rfl rfl rfl BinV.lss rfl ?_
  refine RL.move rfl rfl rfl ?_
  refine RL.part (fun h1 => ?_) (fun h1 => ?_)
  · skip
    have hik : x.i < xs.length := by have := of_decide_eq_true h1; omega
    refine RL.move rfl rfl rfl ?_
    refine RL.bin rfl rfl rfl BinV.lss rfl ?_
    refine RL.pickT rfl rfl rfl rfl ?_
    refine RL.nil ?_
    refine NX.seq ?_
    refine TR.cond rfl (fun h2 => ?_) (fun h2 => ?_)
    · skip
      have hi16 : x.i < 16 := by have := of_decide_eq_true h2; omega
      have hxi := hok.2 _ (List.getElem_mem hik)
      have hq16 := tdiv16 hxi.1 hxi.2
      have hl16 := hx.2.1
      refine TR.openP (open_arr (oa := oa) (xs := ints xs) (.tail _ ha) (ints_ne (by omega))) (fun pq hpa => ?_)
      refine TR.skip ?_
      refine NX.seq ?_
      refine TR.seq ?_
      refine TR.block ?_
      refine TR.seq ?_
      refine TR.region ?_
      refine RL.move rfl rfl rfl ?_
      refine RL.move rfl rfl rfl ?_
      refine RL.indexAddr rfl ec_tl33 ec_tz3 (congrArg (fun a => some (Value.slice a _ _)) hpa) rfl (by omega) (by omega) rfl ?_
      refine RL.loadF rfl rfl (fun w K hF => run_loadCell1 (j := ((x.i : Nat) : Int).toNat * 1) (v := I xs[x.i]) (hF (CellsF pq.1 pq.2 (ints xs)) (.head _)) ec_ts3 (by rw [Nat.mul_one, Int.toNat_natCast]; exact ints_get hik)) rfl ?_
      refine RL.bin rfl rfl rfl (BinV.quo (by decide) (xs[x.i].tdiv 16) rfl (by omega) (by omega)) rfl ?_
      refine RL.call rfl rfl Try.call11 rfl (around_spec (by decide) hq16.1 hq16.2) (fun r1 => ?_)
      obtain ⟨r1v, r1h⟩ := r1
      obtain ⟨n, rfl⟩ : ∃ n : Nat, r1v = n := ⟨r1v.toNat, by omega⟩
      dsimp only
      refine RL.assign rfl rfl rfl ?_
      refine RL.nil ?_
      refine NX.seq ?_
      refine TR.seq ?_
      refine TR.region ?_
      refine RL.move rfl rfl rfl ?_
      refine RL.bin rfl rfl rfl (BinV.remK (a := n) (b := 3) (by decide)) rfl ?_
      refine RL.build rfl rfl (ec_bv48_1 _) rfl ?_
      refine RL.allocA rfl (Try.zeroValue48) rfl (fun b3 => ?_)
      refine RL.storeA 0 rfl rfl rfl rfl ec_tz48 rfl rfl ?_
      refine RL.nil ?_
      refine NX.seq ?_
      refine TR.seq ?_
      refine TR.seq ?_
      refine TR.region ?_
      refine RL.move rfl rfl rfl ?_
      refine RL.move rfl rfl rfl ?_
      refine RL.indexAddr rfl ec_tl33 ec_tz3 (congrArg (fun a => some (Value.slice a _ _)) hpa) rfl (by omega) (by omega) rfl ?_
      refine RL.loadF rfl rfl (fun w K hF => run_loadCell1 (j := ((x.i : Nat) : Int).toNat * 1) (v := I xs[x.i]) (hF (CellsF pq.1 pq.2 (ints xs)) (.head _)) ec_ts3 (by rw [Nat.mul_one, Int.toNat_natCast]; exact ints_get hik)) rfl ?_
      refine RL.call rfl rfl Try.call11 rfl (around_spec (by decide) hxi.1 hxi.2) (fun r2 => ?_)
      obtain ⟨q, hq⟩ := r2
      dsimp only
      refine RL.nil ?_
      refine NX.seq ?_
      refine TR.block ?_
      refine TR.seq ?_
      refine TR.seq ?_
      refine TR.region ?_
      rcases (by omega : q = 0 ∨ q = 1 ∨ q = 2 ∨ q = 3 ∨ q = 4 ∨ q = 5 ∨ q = 6 ∨ 7 ≤ q) with rfl | rfl | rfl | rfl | rfl | rfl | rfl | hq7
      · skip
        refine RL.bin rfl rfl rfl (BinV.to (d := true) BinV.eql (decide_eq_true rfl)) rfl ?_
        refine RL.assign rfl rfl rfl ?_
        refine RL.nil ?_
        refine NX.seq ?_
        refine TR.condT rfl ?_
        refine TR.skip ?_
        refine NX.seq ?_
        refine TR.condT rfl ?_
        refine TR.region ?_
        refine RL.fieldAddr rfl ec_tf48_0 rfl rfl ?_
        refine RL.store1 0 rfl ec_ts3 rfl rfl rfl rfl rfl ?_
        refine RL.nil ?_
        refine NX.off ?_
        refine NX.seq ?_
        refine TR.weak (fun w hw => hw.derive (ψ := ArrF none (bytesV [])) (fun K hf => .inl rfl)) ?_
        refine TR.weak (fun w hw => hw.derive (ψ := ArrF none (ints [])) (fun K hf => .inl rfl)) ?_
        refine TR.weak (fun w hw => hw.allO_snoc (l := x.l) (o := ⟨1, ((n % 3 : Nat) : Int), 0, [], none, 0, [], none, 0⟩) (.tail _ (.tail _ (.tail _ (.head _)))) (.tail _ (.head _)) (.head _)) ?_
        have hok : OpOk ⟨1, ((n % 3 : Nat) : Int), 0, [], none, 0, [], none, 0⟩ := ⟨by dsimp; omega, by dsimp; omega, by dsimp; omega, by dsimp; omega, fun _ => by dsimp; omega, by simp, by simp, by simp⟩
        refine TR.region ?_
        refine RL.move rfl rfl rfl ?_
        refine RL.loadA 0 rfl rfl rfl ec_ta48 rfl ?_
        refine RL.buildSlice rfl rfl (ec_bs44_1_0 _ _ _ _ _ _ _ _ _) rfl (fun b4 => ?_)
        refine RL.ofGV rfl rfl (GV.append (j := 2) ec_tl44 ec_ni44 ec_te48 rfl rfl rfl (src_box (i := 0) rfl rfl rfl) (by omega) (by omega)) (fun y => ?_)
        refine RL.assign rfl rfl rfl ?_
        refine RL.nil ?_
        refine NX.off ?_
        refine NX.seq ?_
        refine TR.region ?_
        refine RL.move rfl rfl rfl ?_
        refine RL.bin rfl rfl rfl (BinV.add ((x.i + 1 : Nat) : Int) (by omega) (by omega) (by omega)) rfl ?_
        refine RL.assign rfl rfl rfl ?_
        refine RL.nil ?_
        refine NX.roundP ⟨x.i + 1, x.l ++ [⟨1, ((n % 3 : Nat) : Int), 0, [], none, 0, [], none, 0⟩], y.1, y.2⟩ ⟨by show x.i + 1 ≤ 16; omega, by show (x.l ++ [_]).length = x.i + 1; rw [List.length_append, hx.2.1]; rfl, fun o ho => (List.mem_append.1 ho).elim (hx.2.2 o) (fun e => by rw [List.mem_singleton.1 e]; exact hok)⟩ (by show 16 - (x.i + 1) < _; omega) ⟨rfl, by show some (Value.slice y.1 (x.l.length + 1) y.2) = some (Value.slice y.1 (x.l ++ [_]).length y.2); rw [List.length_append]; rfl, rfl, trivial⟩ (fun w hw => (by
                have h9 := (hw.to 3 [2] 5 [0] rfl)
                show St w (OwnSl 48 5 y.1 (x.l ++ [_]).length y.2 (opsV (x.l ++ [_])) :: M) _
                rw [opsV_snoc, List.length_append]
                exact h9))
      · skip
        refine RL.bin rfl rfl rfl (BinV.to (d := false) BinV.eql (decide_eq_false (by decide))) rfl ?_
        refine RL.assign rfl rfl rfl ?_
        refine RL.nil ?_
        refine NX.seq ?_
        refine TR.condF rfl ?_
        refine TR.region ?_
        refine RL.bin rfl rfl rfl (BinV.to (d := true) BinV.eql (decide_eq_true rfl)) rfl ?_
        refine RL.assign rfl rfl rfl ?_
        refine RL.nil ?_
        refine NX.seq ?_
        refine TR.condT rfl ?_
        refine TR.region ?_
        refine RL.fieldAddr rfl ec_tf48_0 rfl rfl ?_
        refine RL.store1 0 rfl ec_ts3 rfl rfl rfl rfl rfl ?_
        refine RL.nil ?_
        refine NX.off ?_
        refine NX.seq ?_
        refine TR.weak (fun w hw => hw.derive (ψ := ArrF none (bytesV [])) (fun K hf => .inl rfl)) ?_
        refine TR.weak (fun w hw => hw.derive (ψ := ArrF none (ints [])) (fun K hf => .inl rfl)) ?_
        refine TR.weak (fun w hw => hw.allO_snoc (l := x.l) (o := ⟨1, ((n % 3 : Nat) : Int), 0, [], none, 0, [], none, 0⟩) (.tail _ (.tail _ (.tail _ (.head _)))) (.tail _ (.head _)) (.head _)) ?_
        have hok : OpOk ⟨1, ((n % 3 : Nat) : Int), 0, [], none, 0, [], none, 0⟩ := ⟨by dsimp; omega, by dsimp; omega, by dsimp; omega, by dsimp; omega, fun _ => by dsimp; omega, by simp, by simp, by simp⟩
        refine TR.region ?_
        refine RL.move rfl rfl rfl ?_
        refine RL.loadA 0 rfl rfl rfl ec_ta48 rfl ?_
        refine RL.buildSlice rfl rfl (ec_bs44_1_0 _ _ _ _ _ _ _ _ _) rfl (fun b6 => ?_)
        refine RL.ofGV rfl rfl (GV.append (j := 2) ec_tl44 ec_ni44 ec_te48 rfl rfl rfl (src_box (i := 0) rfl rfl rfl) (by omega) (by omega)) (fun y => ?_)
        refine RL.assign rfl rfl rfl ?_
        refine RL.nil ?_
        refine NX.off ?_
        refine NX.seq ?_
        refine TR.region ?_
        refine RL.move rfl rfl rfl ?_
        refine RL.bin rfl rfl rfl (BinV.add ((x.i + 1 : Nat) : Int) (by omega) (by omega) (by omega)) rfl ?_
        refine RL.assign rfl rfl rfl ?_
        refine RL.nil ?_
        refine NX.roundP ⟨x.i + 1, x.l ++ [⟨1, ((n % 3 : Nat) : Int), 0, [], none, 0, [], none, 0⟩], y.1, y.2⟩ ⟨by show x.i + 1 ≤ 16; omega, by show (x.l ++ [_]).length = x.i + 1; rw [List.length_append, hx.2.1]; rfl, fun o ho => (List.mem_append.1 ho).elim (hx.2.2 o) (fun e => by rw [List.mem_singleton.1 e]; exact hok)⟩ (by show 16 - (x.i + 1) < _; omega) ⟨rfl, by show some (Value.slice y.1 (x.l.length + 1) y.2) = some (Value.slice y.1 (x.l ++ [_]).length y.2); rw [List.length_append]; rfl, rfl, trivial⟩ (fun w hw => (by
                have h9 := (hw.to 3 [2] 5 [0] rfl)
                show St w (OwnSl 48 5 y.1 (x.l ++ [_]).length y.2 (opsV (x.l ++ [_])) :: M) _
                rw [opsV_snoc, List.length_append]
                exact h9))
      · skip
        refine RL.bin rfl rfl rfl (BinV.to (d := false) BinV.eql (decide_eq_false (by decide))) rfl ?_
        refine RL.assign rfl rfl rfl ?_
        refine RL.nil ?_
        refine NX.seq ?_
        refine TR.condF rfl ?_
        refine TR.region ?_
        refine RL.bin rfl rfl rfl (BinV.to (d := false) BinV.eql (decide_eq_false (by decide))) rfl ?_
        refine RL.assign rfl rfl rfl ?_
        refine RL.nil ?_
        refine NX.seq ?_
        refine TR.condF rfl ?_
        refine TR.seq ?_
        refine TR.region ?_
        refine RL.bin rfl rfl rfl (BinV.to (d := true) BinV.eql (decide_eq_true rfl)) rfl ?_
        refine RL.assign rfl rfl rfl ?_
        refine RL.nil ?_
        refine NX.seq ?_
        refine TR.condT rfl ?_
        refine TR.seq ?_
        refine TR.region ?_
        refine RL.fieldAddr rfl ec_tf48_0 rfl rfl ?_
        refine RL.store1 0 rfl ec_ts3 rfl rfl rfl rfl rfl ?_
        refine RL.nil ?_
        refine NX.seq ?_
        refine TR.region ?_
        refine RL.move rfl rfl rfl ?_
        refine RL.bin rfl rfl rfl (BinV.quo (by decide) ((n / 3 : Nat) : Int) (by rw [Int.tdiv_eq_ediv_of_nonneg (by omega)]; omega) (by omega) (by omega)) rfl ?_
        refine RL.bin rfl rfl rfl (BinV.remK (a := n / 3) (b := 9) (by decide)) rfl ?_
        refine RL.bin rfl rfl rfl (BinV.sub (((n / 3 % 9 : Nat) : Int) - 1) rfl (by omega) (by omega)) rfl ?_
        refine RL.fieldAddr rfl ec_tf48_2 rfl rfl ?_
        refine RL.store1 0 rfl ec_ts3 rfl rfl rfl rfl rfl ?_
        refine RL.nil ?_
        refine NX.off ?_
        refine NX.seq ?_
        refine TR.weak (fun w hw => hw.derive (ψ := ArrF none (bytesV [])) (fun K hf => .inl rfl)) ?_
        refine TR.weak (fun w hw => hw.derive (ψ := ArrF none (ints [])) (fun K hf => .inl rfl)) ?_
        refine TR.weak (fun w hw => hw.allO_snoc (l := x.l) (o := ⟨2, ((n % 3 : Nat) : Int), ((n / 3 % 9 : Nat) : Int) - 1, [], none, 0, [], none, 0⟩) (.tail _ (.tail _ (.tail _ (.head _)))) (.tail _ (.head _)) (.head _)) ?_
        have hok : OpOk ⟨2, ((n % 3 : Nat) : Int), ((n / 3 % 9 : Nat) : Int) - 1, [], none, 0, [], none, 0⟩ := ⟨by dsimp; omega, by dsimp; omega, by dsimp; omega, by dsimp; omega, fun _ => by dsimp; omega, by simp, by simp, by simp⟩
        refine TR.region ?_
        refine RL.move rfl rfl rfl ?_
        refine RL.loadA 0 rfl rfl rfl ec_ta48 rfl ?_
        refine RL.buildSlice rfl rfl (ec_bs44_1_0 _ _ _ _ _ _ _ _ _) rfl (fun b8 => ?_)
        refine RL.ofGV rfl rfl (GV.append (j := 2) ec_tl44 ec_ni44 ec_te48 rfl rfl rfl (src_box (i := 0) rfl rfl rfl) (by omega) (by omega)) (fun y => ?_)
        refine RL.assign rfl rfl rfl ?_
        refine RL.nil ?_
        refine NX.off ?_
        refine NX.seq ?_
        refine TR.region ?_
        refine RL.move rfl rfl rfl ?_
        refine RL.bin rfl rfl rfl (BinV.add ((x.i + 1 : Nat) : Int) (by omega) (by omega) (by omega)) rfl ?_
        refine RL.assign rfl rfl rfl ?_
        refine RL.nil ?_
        refine NX.roundP ⟨x.i + 1, x.l ++ [⟨2, ((n % 3 : Nat) : Int), ((n / 3 % 9 : Nat) : Int) - 1, [], none, 0, [], none, 0⟩], y.1, y.2⟩ ⟨by show x.i + 1 ≤ 16; omega, by show (x.l ++ [_]).length = x.i + 1; rw [List.length_append, hx.2.1]; rfl, fun o ho => (List.mem_append.1 ho).elim (hx.2.2 o) (fun e => by rw [List.mem_singleton.1 e]; exact hok)⟩ (by show 16 - (x.i + 1) < _; omega) ⟨rfl, by show some (Value.slice y.1 (x.l.length + 1) y.2) = some (Value.slice y.1 (x.l ++ [_]).length y.2); rw [List.length_append]; rfl, rfl, trivial⟩ (fun w hw => (by
                have h9 := (hw.to 3 [2] 5 [0] rfl)
                show St w (OwnSl 48 5 y.1 (x.l ++ [_]).length y.2 (opsV (x.l ++ [_])) :: M) _
                rw [opsV_snoc, List.length_append]
                exact h9))
      · skip
        refine RL.bin rfl rfl rfl (BinV.to (d := false) BinV.eql (decide_eq_false (by decide))) rfl ?_
        refine RL.assign rfl rfl rfl ?_
        refine RL.nil ?_
        refine NX.seq ?_
        refine TR.condF rfl ?_
        refine TR.region ?_
        refine RL.bin rfl rfl rfl (BinV.to (d := false) BinV.eql (decide_eq_false (by decide))) rfl ?_
        refine RL.assign rfl rfl rfl ?_
        refine RL.nil ?_
        refine NX.seq ?_
        refine TR.condF rfl ?_
        refine TR.seq ?_
        refine TR.region ?_
        refine RL.bin rfl rfl rfl (BinV.to (d := false) BinV.eql (decide_eq_false (by decide))) rfl ?_
        refine RL.assign rfl rfl rfl ?_
        refine RL.nil ?_
        refine NX.seq ?_
        refine TR.condF rfl ?_
        refine TR.seq ?_
        refine TR.region ?_
        refine RL.bin rfl rfl rfl (BinV.to (d := true) BinV.eql (decide_eq_true rfl)) rfl ?_
        refine RL.assign rfl rfl rfl ?_
        refine RL.nil ?_
        refine NX.seq ?_
        refine TR.condT rfl ?_
        refine TR.seq ?_
        refine TR.region ?_
        refine RL.fieldAddr rfl ec_tf48_0 rfl rfl ?_
        refine RL.store1 0 rfl ec_ts3 rfl rfl rfl rfl rfl ?_
        refine RL.nil ?_
        refine NX.seq ?_
        refine TR.region ?_
        refine RL.move rfl rfl rfl ?_
        refine RL.bin rfl rfl rfl (BinV.quo (by decide) ((n / 3 : Nat) : Int) (by rw [Int.tdiv_eq_ediv_of_nonneg (by omega)]; omega) (by omega) (by omega)) rfl ?_
        refine RL.bin rfl rfl rfl (BinV.remK (a := n / 3) (b := 7) (by decide)) rfl ?_
        refine RL.bin rfl rfl rfl (BinV.sub (((n / 3 % 7 : Nat) : Int) - 1) rfl (by omega) (by omega)) rfl ?_
        refine RL.fieldAddr rfl ec_tf48_2 rfl rfl ?_
        refine RL.store1 0 rfl ec_ts3 rfl rfl rfl rfl rfl ?_
        refine RL.nil ?_
        refine NX.off ?_
        refine NX.seq ?_
        refine TR.weak (fun w hw => hw.derive (ψ := ArrF none (bytesV [])) (fun K hf => .inl rfl)) ?_
        refine TR.weak (fun w hw => hw.derive (ψ := ArrF none (ints [])) (fun K hf => .inl rfl)) ?_
        refine TR.weak (fun w hw => hw.allO_snoc (l := x.l) (o := ⟨3, ((n % 3 : Nat) : Int), ((n / 3 % 7 : Nat) : Int) - 1, [], none, 0, [], none, 0⟩) (.tail _ (.tail _ (.tail _ (.head _)))) (.tail _ (.head _)) (.head _)) ?_
        have hok : OpOk ⟨3, ((n % 3 : Nat) : Int), ((n / 3 % 7 : Nat) : Int) - 1, [], none, 0, [], none, 0⟩ := ⟨by dsimp; omega, by dsimp; omega, by dsimp; omega, by dsimp; omega, fun _ => by dsimp; omega, by simp, by simp, by simp⟩
        refine TR.region ?_
        refine RL.move rfl rfl rfl ?_
        refine RL.loadA 0 rfl rfl rfl ec_ta48 rfl ?_
        refine RL.buildSlice rfl rfl (ec_bs44_1_0 _ _ _ _ _ _ _ _ _) rfl (fun b10 => ?_)
        refine RL.ofGV rfl rfl (GV.append (j := 2) ec_tl44 ec_ni44 ec_te48 rfl rfl rfl (src_box (i := 0) rfl rfl rfl) (by omega) (by omega)) (fun y => ?_)
        refine RL.assign rfl rfl rfl ?_
        refine RL.nil ?_
        refine NX.off ?_
        refine NX.seq ?_
        refine TR.region ?_
        refine RL.move rfl rfl rfl ?_
        refine RL.bin rfl rfl rfl (BinV.add ((x.i + 1 : Nat) : Int) (by omega) (by omega) (by omega)) rfl ?_
        refine RL.assign rfl rfl rfl ?_
        refine RL.nil ?_
        refine NX.roundP ⟨x.i + 1, x.l ++ [⟨3, ((n % 3 : Nat) : Int), ((n / 3 % 7 : Nat) : Int) - 1, [], none, 0, [], none, 0⟩], y.1, y.2⟩ ⟨by show x.i + 1 ≤ 16; omega, by show (x.l ++ [_]).length = x.i + 1; rw [List.length_append, hx.2.1]; rfl, fun o ho => (List.mem_append.1 ho).elim (hx.2.2 o) (fun e => by rw [List.mem_singleton.1 e]; exact hok)⟩ (by show 16 - (x.i + 1) < _; omega) ⟨rfl, by show some (Value.slice y.1 (x.l.length + 1) y.2) = some (Value.slice y.1 (x.l ++ [_]).length y.2); rw [List.length_append]; rfl, rfl, trivial⟩ (fun w hw => (by
                have h9 := (hw.to 3 [2] 5 [0] rfl)
                show St w (OwnSl 48 5 y.1 (x.l ++ [_]).length y.2 (opsV (x.l ++ [_])) :: M) _
                rw [opsV_snoc, List.length_append]
                exact h9))
      · skip
        refine RL.bin rfl rfl rfl (BinV.to (d := false) BinV.eql (decide_eq_false (by decide))) rfl ?_
        refine RL.assign rfl rfl rfl ?_
        refine RL.nil ?_
        refine NX.seq ?_
        refine TR.condF rfl ?_
        refine TR.region ?_
        refine RL.bin rfl rfl rfl (BinV.to (d := false) BinV.eql (decide_eq_false (by decide))) rfl ?_
        refine RL.assign rfl rfl rfl ?_
        refine RL.nil ?_
        refine NX.seq ?_
        refine TR.condF rfl ?_
        refine TR.seq ?_
        refine TR.region ?_
        refine RL.bin rfl rfl rfl (BinV.to (d := false) BinV.eql (decide_eq_false (by decide))) rfl ?_
        refine RL.assign rfl rfl rfl ?_
        refine RL.nil ?_
        refine NX.seq ?_
        refine TR.condF rfl ?_
        refine TR.seq ?_
        refine TR.region ?_
        refine RL.bin rfl rfl rfl (BinV.to (d := false) BinV.eql (decide_eq_false (by decide))) rfl ?_
        refine RL.assign rfl rfl rfl ?_
        refine RL.nil ?_
        refine NX.seq ?_
        refine TR.condF rfl ?_
        refine TR.seq ?_
        refine TR.seq ?_
        refine TR.region ?_
        refine RL.bin rfl rfl rfl (BinV.to (d := true) BinV.eql (decide_eq_true rfl)) rfl ?_
        refine RL.assign rfl rfl rfl ?_
        refine RL.nil ?_
        refine NX.seq ?_
        refine TR.condT rfl ?_
        refine TR.skip ?_
        refine NX.seq ?_
        refine TR.condT rfl ?_
        refine TR.seq ?_
        refine TR.region ?_
        refine RL.fieldAddr rfl ec_tf48_0 rfl rfl ?_
        refine RL.store1 0 rfl ec_ts3 rfl rfl rfl rfl rfl ?_
        refine RL.nil ?_
        refine NX.seq ?_
        refine TR.seq ?_
        refine TR.region ?_
        refine RL.move rfl rfl rfl ?_
        refine RL.bin rfl rfl rfl (BinV.quo (by decide) ((n / 4 : Nat) : Int) (by rw [Int.tdiv_eq_ediv_of_nonneg (by omega)]; omega) (by omega) (by omega)) rfl ?_
        refine RL.bin rfl rfl rfl (BinV.remK (a := n / 4) (b := 40) (by decide)) rfl ?_
        refine RL.bin rfl rfl rfl (BinV.sub (((n / 4 % 40 : Nat) : Int) - 4) rfl (by omega) (by omega)) rfl ?_
        refine RL.fieldAddr rfl ec_tf48_2 rfl rfl ?_
        refine RL.store1 0 rfl ec_ts3 rfl rfl rfl rfl rfl ?_
        refine RL.nil ?_
        refine NX.seq ?_
        refine TR.seq ?_
        refine TR.region ?_
        refine RL.move rfl rfl rfl ?_
        refine RL.bin rfl rfl rfl (BinV.remK (a := n) (b := 5) (by decide)) rfl ?_
        refine RL.bin rfl rfl rfl (BinV.sub (((n % 5 : Nat) : Int) - 1) rfl (by omega) (by omega)) rfl ?_
        refine RL.move rfl rfl rfl ?_
        refine RL.bin rfl rfl rfl (BinV.quo (by decide) ((n / 5 : Nat) : Int) (by rw [Int.tdiv_eq_ediv_of_nonneg (by omega)]; omega) (by omega) (by omega)) rfl ?_
        refine RL.bin rfl rfl rfl (BinV.remK (a := n / 5) (b := 5) (by decide)) rfl ?_
        refine RL.move rfl rfl rfl ?_
        refine RL.bin rfl rfl rfl (BinV.quo (by decide) ((n / 25 : Nat) : Int) (by rw [Int.tdiv_eq_ediv_of_nonneg (by omega)]; omega) (by omega) (by omega)) rfl ?_
        refine RL.bin rfl rfl rfl (BinV.remK (a := n / 25) (b := 5) (by decide)) rfl ?_
        refine RL.buildSlice rfl rfl (ec_bs33_3_0_1_2 _ _ _) rfl (fun b12 => ?_)
        refine RL.weak (fun w hw => St.boxArr (show St w (Box _ _ (ints [((n % 5 : Nat) : Int) - 1, ((n / 5 % 5 : Nat) : Int), ((n / 25 % 5 : Nat) : Int)]) :: _) _ from hw)) ?_
        refine RL.weak (fun w hw => hw.cutI (cap := 3) (n / 125 % 4) (by simp) (.head _)) ?_
        refine RL.fieldAddr rfl ec_tf48_4 rfl rfl ?_
        refine RL.store1 0 rfl ec_ts33 rfl rfl rfl rfl rfl ?_
        refine RL.nil ?_
        refine NX.seq ?_
        refine TR.region ?_
        refine RL.fieldAddr rfl ec_tf48_4 rfl rfl ?_
        refine RL.load1 0 rfl ec_ts33 rfl rfl rfl rfl ?_
        refine RL.move rfl rfl rfl ?_
        refine RL.bin rfl rfl rfl (BinV.quo (by decide) ((n / 125 : Nat) : Int) (by rw [Int.tdiv_eq_ediv_of_nonneg (by omega)]; omega) (by omega) (by omega)) rfl ?_
        refine RL.bin rfl rfl rfl (BinV.remK (a := n / 125) (b := 4) (by decide)) rfl ?_
        refine RL.sliceLH (l := 0) (h := n / 125 % 4) rfl ec_tl33 ec_tz3 rfl (.inl ⟨rfl, rfl⟩) (.inr ⟨_, rfl, rfl⟩) (Nat.zero_le _) (by omega) rfl ?_
        refine RL.fieldAddr rfl ec_tf48_4 rfl rfl ?_
        refine RL.store1 0 rfl ec_ts33 rfl rfl rfl rfl rfl ?_
        refine RL.nil ?_
        refine NX.off ?_
        refine NX.seq ?_
        refine TR.weak (fun w hw => hw.derive (ψ := ArrF none (bytesV [])) (fun K hf => .inl rfl)) ?_
        refine TR.weak (fun w hw => hw.allO_snoc (l := x.l) (o := ⟨4, ((n % 3 : Nat) : Int), ((n / 4 % 40 : Nat) : Int) - 4, [], none, 0, ([((n % 5 : Nat) : Int) - 1, ((n / 5 % 5 : Nat) : Int), ((n / 25 % 5 : Nat) : Int)]).take (n / 125 % 4), cutA (some ⟨b12, 0, none⟩) 0 3 1, 3⟩) (.tail _ (.tail _ (.tail _ (.tail _ (.head _))))) (.head _) (.tail _ (.head _))) ?_
        have hok : OpOk ⟨4, ((n % 3 : Nat) : Int), ((n / 4 % 40 : Nat) : Int) - 4, [], none, 0, ([((n % 5 : Nat) : Int) - 1, ((n / 5 % 5 : Nat) : Int), ((n / 25 % 5 : Nat) : Int)]).take (n / 125 % 4), cutA (some ⟨b12, 0, none⟩) 0 3 1, 3⟩ := ⟨by dsimp; omega, by dsimp; omega, by dsimp; omega, by dsimp; omega, fun e => absurd (show (4 : Int) = 3 from e) (by decide), by simp, by dsimp; rw [List.length_take]; simp; omega, fun v hv => by have := List.mem_of_mem_take hv; simp at this; omega⟩
        refine TR.region ?_
        refine RL.move rfl rfl rfl ?_
        refine RL.loadA 0 rfl rfl rfl ec_ta48 rfl ?_
        refine RL.buildSlice rfl rfl (ec_bs44_1_0 _ _ _ _ _ _ _ _ _) rfl (fun b13 => ?_)
        refine RL.ofGV rfl rfl (GV.append (j := 2) ec_tl44 ec_ni44 ec_te48 rfl rfl rfl (src_box (i := 0) rfl rfl rfl) (by omega) (by omega)) (fun y => ?_)
        refine RL.assign rfl rfl rfl ?_
        refine RL.nil ?_
        refine NX.off ?_
        refine NX.seq ?_
        refine TR.region ?_
        refine RL.move rfl rfl rfl ?_
        refine RL.bin rfl rfl rfl (BinV.add ((x.i + 1 : Nat) : Int) (by omega) (by omega) (by omega)) rfl ?_
        refine RL.assign rfl rfl rfl ?_
        refine RL.nil ?_
        refine NX.roundP ⟨x.i + 1, x.l ++ [⟨4, ((n % 3 : Nat) : Int), ((n / 4 % 40 : Nat) : Int) - 4, [], none, 0, ([((n % 5 : Nat) : Int) - 1, ((n / 5 % 5 : Nat) : Int), ((n / 25 % 5 : Nat) : Int)]).take (n / 125 % 4), cutA (some ⟨b12, 0, none⟩) 0 3 1, 3⟩], y.1, y.2⟩ ⟨by show x.i + 1 ≤ 16; omega, by show (x.l ++ [_]).length = x.i + 1; rw [List.length_append, hx.2.1]; rfl, fun o ho => (List.mem_append.1 ho).elim (hx.2.2 o) (fun e => by rw [List.mem_singleton.1 e]; exact hok)⟩ (by show 16 - (x.i + 1) < _; omega) ⟨rfl, by show some (Value.slice y.1 (x.l.length + 1) y.2) = some (Value.slice y.1 (x.l ++ [_]).length y.2); rw [List.length_append]; rfl, rfl, trivial⟩ (fun w hw => (by
                have h9 := (hw.to 3 [2] 6 [0] rfl)
                show St w (OwnSl 48 5 y.1 (x.l ++ [_]).length y.2 (opsV (x.l ++ [_])) :: M) _
                rw [opsV_snoc, List.length_append]
                rw [show n / 125 % 4 - 0 = (List.take (n / 125 % 4) [((n % 5 : Nat) : Int) - 1, ((n / 5 % 5 : Nat) : Int), ((n / 25 % 5 : Nat) : Int)]).length by rw [List.length_take]; simp; omega] at h9
                exact h9))
      · skip
        refine RL.bin rfl rfl rfl (BinV.to (d := false) BinV.eql (decide_eq_false (by decide))) rfl ?_
        refine RL.assign rfl rfl rfl ?_
        refine RL.nil ?_
        refine NX.seq ?_
        refine TR.condF rfl ?_
        refine TR.region ?_
        refine RL.bin rfl rfl rfl (BinV.to (d := false) BinV.eql (decide_eq_false (by decide))) rfl ?_
        refine RL.assign rfl rfl rfl ?_
        refine RL.nil ?_
        refine NX.seq ?_
        refine TR.condF rfl ?_
        refine TR.seq ?_
        refine TR.region ?_
        refine RL.bin rfl rfl rfl (BinV.to (d := false) BinV.eql (decide_eq_false (by decide))) rfl ?_
        refine RL.assign rfl rfl rfl ?_
        refine RL.nil ?_
        refine NX.seq ?_
        refine TR.condF rfl ?_
        refine TR.seq ?_
        refine TR.region ?_
        refine RL.bin rfl rfl rfl (BinV.to (d := false) BinV.eql (decide_eq_false (by decide))) rfl ?_
        refine RL.assign rfl rfl rfl ?_
        refine RL.nil ?_
        refine NX.seq ?_
        refine TR.condF rfl ?_
        refine TR.seq ?_
        refine TR.seq ?_
        refine TR.region ?_
        refine RL.bin rfl rfl rfl (BinV.to (d := false) BinV.eql (decide_eq_false (by decide))) rfl ?_
        refine RL.assign rfl rfl rfl ?_
        refine RL.nil ?_
        refine NX.seq ?_
        refine TR.condF rfl ?_
        refine TR.region ?_
        refine RL.bin rfl rfl rfl (BinV.to (d := true) BinV.eql (decide_eq_true rfl)) rfl ?_
        refine RL.assign rfl rfl rfl ?_
        refine RL.nil ?_
        refine NX.seq ?_
        refine TR.condT rfl ?_
        refine TR.seq ?_
        refine TR.region ?_
        refine RL.fieldAddr rfl ec_tf48_0 rfl rfl ?_
        refine RL.store1 0 rfl ec_ts3 rfl rfl rfl rfl rfl ?_
        refine RL.nil ?_
        refine NX.seq ?_
        refine TR.seq ?_
        refine TR.region ?_
        refine RL.move rfl rfl rfl ?_
        refine RL.bin rfl rfl rfl (BinV.quo (by decide) ((n / 4 : Nat) : Int) (by rw [Int.tdiv_eq_ediv_of_nonneg (by omega)]; omega) (by omega) (by omega)) rfl ?_
        refine RL.bin rfl rfl rfl (BinV.remK (a := n / 4) (b := 40) (by decide)) rfl ?_
        refine RL.bin rfl rfl rfl (BinV.sub (((n / 4 % 40 : Nat) : Int) - 4) rfl (by omega) (by omega)) rfl ?_
        refine RL.fieldAddr rfl ec_tf48_2 rfl rfl ?_
        refine RL.store1 0 rfl ec_ts3 rfl rfl rfl rfl rfl ?_
        refine RL.nil ?_
        refine NX.seq ?_
        refine TR.seq ?_
        refine TR.region ?_
        refine RL.move rfl rfl rfl ?_
        refine RL.bin rfl rfl rfl (BinV.remK (a := n) (b := 5) (by decide)) rfl ?_
        refine RL.bin rfl rfl rfl (BinV.sub (((n % 5 : Nat) : Int) - 1) rfl (by omega) (by omega)) rfl ?_
        refine RL.move rfl rfl rfl ?_
        refine RL.bin rfl rfl rfl (BinV.quo (by decide) ((n / 5 : Nat) : Int) (by rw [Int.tdiv_eq_ediv_of_nonneg (by omega)]; omega) (by omega) (by omega)) rfl ?_
        refine RL.bin rfl rfl rfl (BinV.remK (a := n / 5) (b := 5) (by decide)) rfl ?_
        refine RL.move rfl rfl rfl ?_
        refine RL.bin rfl rfl rfl (BinV.quo (by decide) ((n / 25 : Nat) : Int) (by rw [Int.tdiv_eq_ediv_of_nonneg (by omega)]; omega) (by omega) (by omega)) rfl ?_
        refine RL.bin rfl rfl rfl (BinV.remK (a := n / 25) (b := 5) (by decide)) rfl ?_
        refine RL.buildSlice rfl rfl (ec_bs33_3_0_1_2 _ _ _) rfl (fun b15 => ?_)
        refine RL.weak (fun w hw => St.boxArr (show St w (Box _ _ (ints [((n % 5 : Nat) : Int) - 1, ((n / 5 % 5 : Nat) : Int), ((n / 25 % 5 : Nat) : Int)]) :: _) _ from hw)) ?_
        refine RL.weak (fun w hw => hw.cutI (cap := 3) (n / 125 % 4) (by simp) (.head _)) ?_
        refine RL.fieldAddr rfl ec_tf48_4 rfl rfl ?_
        refine RL.store1 0 rfl ec_ts33 rfl rfl rfl rfl rfl ?_
        refine RL.nil ?_
        refine NX.seq ?_
        refine TR.region ?_
        refine RL.fieldAddr rfl ec_tf48_4 rfl rfl ?_
        refine RL.load1 0 rfl ec_ts33 rfl rfl rfl rfl ?_
        refine RL.move rfl rfl rfl ?_
        refine RL.bin rfl rfl rfl (BinV.quo (by decide) ((n / 125 : Nat) : Int) (by rw [Int.tdiv_eq_ediv_of_nonneg (by omega)]; omega) (by omega) (by omega)) rfl ?_
        refine RL.bin rfl rfl rfl (BinV.remK (a := n / 125) (b := 4) (by decide)) rfl ?_
        refine RL.sliceLH (l := 0) (h := n / 125 % 4) rfl ec_tl33 ec_tz3 rfl (.inl ⟨rfl, rfl⟩) (.inr ⟨_, rfl, rfl⟩) (Nat.zero_le _) (by omega) rfl ?_
        refine RL.fieldAddr rfl ec_tf48_4 rfl rfl ?_
        refine RL.store1 0 rfl ec_ts33 rfl rfl rfl rfl rfl ?_
        refine RL.nil ?_
        refine NX.off ?_
        refine NX.seq ?_
        refine TR.weak (fun w hw => hw.derive (ψ := ArrF none (bytesV [])) (fun K hf => .inl rfl)) ?_
        refine TR.weak (fun w hw => hw.allO_snoc (l := x.l) (o := ⟨4, ((n % 3 : Nat) : Int), ((n / 4 % 40 : Nat) : Int) - 4, [], none, 0, ([((n % 5 : Nat) : Int) - 1, ((n / 5 % 5 : Nat) : Int), ((n / 25 % 5 : Nat) : Int)]).take (n / 125 % 4), cutA (some ⟨b15, 0, none⟩) 0 3 1, 3⟩) (.tail _ (.tail _ (.tail _ (.tail _ (.head _))))) (.head _) (.tail _ (.head _))) ?_
        have hok : OpOk ⟨4, ((n % 3 : Nat) : Int), ((n / 4 % 40 : Nat) : Int) - 4, [], none, 0, ([((n % 5 : Nat) : Int) - 1, ((n / 5 % 5 : Nat) : Int), ((n / 25 % 5 : Nat) : Int)]).take (n / 125 % 4), cutA (some ⟨b15, 0, none⟩) 0 3 1, 3⟩ := ⟨by dsimp; omega, by dsimp; omega, by dsimp; omega, by dsimp; omega, fun e => absurd (show (4 : Int) = 3 from e) (by decide), by simp, by dsimp; rw [List.length_take]; simp; omega, fun v hv => by have := List.mem_of_mem_take hv; simp at this; omega⟩
        refine TR.region ?_
        refine RL.move rfl rfl rfl ?_
        refine RL.loadA 0 rfl rfl rfl ec_ta48 rfl ?_
        refine RL.buildSlice rfl rfl (ec_bs44_1_0 _ _ _ _ _ _ _ _ _) rfl (fun b16 => ?_)
        refine RL.ofGV rfl rfl (GV.append (j := 2) ec_tl44 ec_ni44 ec_te48 rfl rfl rfl (src_box (i := 0) rfl rfl rfl) (by omega) (by omega)) (fun y => ?_)
        refine RL.assign rfl rfl rfl ?_
        refine RL.nil ?_
        refine NX.off ?_
        refine NX.seq ?_
        refine TR.region ?_
        refine RL.move rfl rfl rfl ?_
        refine RL.bin rfl rfl rfl (BinV.add ((x.i + 1 : Nat) : Int) (by omega) (by omega) (by omega)) rfl ?_
        refine RL.assign rfl rfl rfl ?_
        refine RL.nil ?_
        refine NX.roundP ⟨x.i + 1, x.l ++ [⟨4, ((n % 3 : Nat) : Int), ((n / 4 % 40 : Nat) : Int) - 4, [], none, 0, ([((n % 5 : Nat) : Int) - 1, ((n / 5 % 5 : Nat) : Int), ((n / 25 % 5 : Nat) : Int)]).take (n / 125 % 4), cutA (some ⟨b15, 0, none⟩) 0 3 1, 3⟩], y.1, y.2⟩ ⟨by show x.i + 1 ≤ 16; omega, by show (x.l ++ [_]).length = x.i + 1; rw [List.length_append, hx.2.1]; rfl, fun o ho => (List.mem_append.1 ho).elim (hx.2.2 o) (fun e => by rw [List.mem_singleton.1 e]; exact hok)⟩ (by show 16 - (x.i + 1) < _; omega) ⟨rfl, by show some (Value.slice y.1 (x.l.length + 1) y.2) = some (Value.slice y.1 (x.l ++ [_]).length y.2); rw [List.length_append]; rfl, rfl, trivial⟩ (fun w hw => (by
                have h9 := (hw.to 3 [2] 6 [0] rfl)
                show St w (OwnSl 48 5 y.1 (x.l ++ [_]).length y.2 (opsV (x.l ++ [_])) :: M) _
                rw [opsV_snoc, List.length_append]
                rw [show n / 125 % 4 - 0 = (List.take (n / 125 % 4) [((n % 5 : Nat) : Int) - 1, ((n / 5 % 5 : Nat) : Int), ((n / 25 % 5 : Nat) : Int)]).length by rw [List.length_take]; simp; omega] at h9
                exact h9))
      · skip
        refine RL.bin rfl rfl rfl (BinV.to (d := false) BinV.eql (decide_eq_false (by decide))) rfl ?_
        refine RL.assign rfl rfl rfl ?_
        refine RL.nil ?_
        refine NX.seq ?_
        refine TR.condF rfl ?_
        refine TR.region ?_
        refine RL.bin rfl rfl rfl (BinV.to (d := false) BinV.eql (decide_eq_false (by decide))) rfl ?_
        refine RL.assign rfl rfl rfl ?_
        refine RL.nil ?_
        refine NX.seq ?_
        refine TR.condF rfl ?_
        refine TR.seq ?_
        refine TR.region ?_
        refine RL.bin rfl rfl rfl (BinV.to (d := false) BinV.eql (decide_eq_false (by decide))) rfl ?_
        refine RL.assign rfl rfl rfl ?_
        refine RL.nil ?_
        refine NX.seq ?_
        refine TR.condF rfl ?_
        refine TR.seq ?_
        refine TR.region ?_
        refine RL.bin rfl rfl rfl (BinV.to (d := false) BinV.eql (decide_eq_false (by decide))) rfl ?_
        refine RL.assign rfl rfl rfl ?_
        refine RL.nil ?_
        refine NX.seq ?_
        refine TR.condF rfl ?_
        refine TR.seq ?_
        refine TR.seq ?_
        refine TR.region ?_
        refine RL.bin rfl rfl rfl (BinV.to (d := false) BinV.eql (decide_eq_false (by decide))) rfl ?_
        refine RL.assign rfl rfl rfl ?_
        refine RL.nil ?_
        refine NX.seq ?_
        refine TR.condF rfl ?_
        refine TR.region ?_
        refine RL.bin rfl rfl rfl (BinV.to (d := false) BinV.eql (decide_eq_false (by decide))) rfl ?_
        refine RL.assign rfl rfl rfl ?_
        refine RL.nil ?_
        refine NX.seq ?_
        refine TR.condF rfl ?_
        refine TR.seq ?_
        refine TR.region ?_
        refine RL.bin rfl rfl rfl (BinV.to (d := true) BinV.eql (decide_eq_true rfl)) rfl ?_
        refine RL.assign rfl rfl rfl ?_
        refine RL.nil ?_
        refine NX.seq ?_
        refine TR.condT rfl ?_
        refine TR.seq ?_
        refine TR.region ?_
        refine RL.move rfl rfl rfl ?_
        refine RL.bin rfl rfl rfl (BinV.remK (a := n) (b := 70) (by decide)) rfl ?_
        refine RL.bin rfl rfl rfl (BinV.sub (((n % 70 : Nat) : Int) - 3) rfl (by omega) (by omega)) rfl ?_
        refine RL.fieldAddr rfl ec_tf48_1 rfl rfl ?_
        refine RL.store1 0 rfl ec_ts3 rfl rfl rfl rfl rfl ?_
        refine RL.nil ?_
        refine NX.seq ?_
        refine TR.region ?_
        refine RL.buildSlice rfl rfl (ec_bs27_1_0 _) rfl (fun b18 => ?_)
        refine RL.weak (fun w hw => St.boxBytes [1] rfl hw) ?_
        refine RL.fieldAddr rfl ec_tf48_3 rfl rfl ?_
        refine RL.store1 0 rfl ec_ts27 rfl rfl rfl rfl rfl ?_
        refine RL.nil ?_
        refine NX.off ?_
        refine NX.seq ?_
        refine TR.weak (fun w hw => hw.derive (ψ := ArrF none (ints [])) (fun K hf => .inl rfl)) ?_
        refine TR.weak (fun w hw => hw.allO_snoc (l := x.l) (o := ⟨0, ((n % 70 : Nat) : Int) - 3, 0, [1], some ⟨b18, 0, none⟩, 1, [], none, 0⟩) (.tail _ (.tail _ (.tail _ (.head _)))) (.tail _ (.head _)) (.head _)) ?_
        have hok : OpOk ⟨0, ((n % 70 : Nat) : Int) - 3, 0, [1], some ⟨b18, 0, none⟩, 1, [], none, 0⟩ := ⟨by dsimp; omega, by dsimp; omega, by dsimp; omega, by dsimp; omega, fun e => absurd (show (0 : Int) = 3 from e) (by decide), by simp, by simp, by simp⟩
        refine TR.region ?_
        refine RL.move rfl rfl rfl ?_
        refine RL.loadA 0 rfl rfl rfl ec_ta48 rfl ?_
        refine RL.buildSlice rfl rfl (ec_bs44_1_0 _ _ _ _ _ _ _ _ _) rfl (fun b19 => ?_)
        refine RL.ofGV rfl rfl (GV.append (j := 2) ec_tl44 ec_ni44 ec_te48 rfl rfl rfl (src_box (i := 0) rfl rfl rfl) (by omega) (by omega)) (fun y => ?_)
        refine RL.assign rfl rfl rfl ?_
        refine RL.nil ?_
        refine NX.off ?_
        refine NX.seq ?_
        refine TR.region ?_
        refine RL.move rfl rfl rfl ?_
        refine RL.bin rfl rfl rfl (BinV.add ((x.i + 1 : Nat) : Int) (by omega) (by omega) (by omega)) rfl ?_
        refine RL.assign rfl rfl rfl ?_
        refine RL.nil ?_
        refine NX.roundP ⟨x.i + 1, x.l ++ [⟨0, ((n % 70 : Nat) : Int) - 3, 0, [1], some ⟨b18, 0, none⟩, 1, [], none, 0⟩], y.1, y.2⟩ ⟨by show x.i + 1 ≤ 16; omega, by show (x.l ++ [_]).length = x.i + 1; rw [List.length_append, hx.2.1]; rfl, fun o ho => (List.mem_append.1 ho).elim (hx.2.2 o) (fun e => by rw [List.mem_singleton.1 e]; exact hok)⟩ (by show 16 - (x.i + 1) < _; omega) ⟨rfl, by show some (Value.slice y.1 (x.l.length + 1) y.2) = some (Value.slice y.1 (x.l ++ [_]).length y.2); rw [List.length_append]; rfl, rfl, trivial⟩ (fun w hw => (by
                have h9 := (hw.to 3 [2] 5 [0] rfl)
                show St w (OwnSl 48 5 y.1 (x.l ++ [_]).length y.2 (opsV (x.l ++ [_])) :: M) _
                rw [opsV_snoc, List.length_append]
                exact h9))
      · skip
        refine RL.bin rfl rfl rfl (BinV.to (d := false) BinV.eql (decide_eq_false (by omega))) rfl ?_
        refine RL.assign rfl rfl rfl ?_
        refine RL.nil ?_
        refine NX.seq ?_
        refine TR.condF rfl ?_
        refine TR.region ?_
        refine RL.bin rfl rfl rfl (BinV.to (d := false) BinV.eql (decide_eq_false (by omega))) rfl ?_
        refine RL.assign rfl rfl rfl ?_
        refine RL.nil ?_
        refine NX.seq ?_
        refine TR.condF rfl ?_
        refine TR.seq ?_
        refine TR.region ?_
        refine RL.bin rfl rfl rfl (BinV.to (d := false) BinV.eql (decide_eq_false (by omega))) rfl ?_
        refine RL.assign rfl rfl rfl ?_
        refine RL.nil ?_
        refine NX.seq ?_
        refine TR.condF rfl ?_
        refine TR.seq ?_
        refine TR.region ?_
        refine RL.bin rfl rfl rfl (BinV.to (d := false) BinV.eql (decide_eq_false (by omega))) rfl ?_
        refine RL.assign rfl rfl rfl ?_
        refine RL.nil ?_
        refine NX.seq ?_
        refine TR.condF rfl ?_
        refine TR.seq ?_
        refine TR.seq ?_
        refine TR.region ?_
        refine RL.bin rfl rfl rfl (BinV.to (d := false) BinV.eql (decide_eq_false (by omega))) rfl ?_
        refine RL.assign rfl rfl rfl ?_
        refine RL.nil ?_
        refine NX.seq ?_
        refine TR.condF rfl ?_
        refine TR.region ?_
        refine RL.bin rfl rfl rfl (BinV.to (d := false) BinV.eql (decide_eq_false (by omega))) rfl ?_
        refine RL.assign rfl rfl rfl ?_
        refine RL.nil ?_
        refine NX.seq ?_
        refine TR.condF rfl ?_
        refine TR.seq ?_
        refine TR.region ?_
        refine RL.bin rfl rfl rfl (BinV.to (d := false) BinV.eql (decide_eq_false (by omega))) rfl ?_
        refine RL.assign rfl rfl rfl ?_
        refine RL.nil ?_
        refine NX.seq ?_
        refine TR.condF rfl ?_
        refine TR.seq ?_
        refine TR.region ?_
        refine RL.assign rfl rfl rfl ?_
        refine RL.nil ?_
        refine NX.seq ?_
        refine TR.block ?_
        refine TR.loopP (ι := ObX) (fun u => u.b.length ≤ 5 ∧ True) (fun u => [(0, .slice oa xs.length ca), (3, .slice x.oa x.l.length x.c), (4, I (x.i : Nat)), (5, I (n : Nat)), (6, .pointer (some ⟨b3, 0, none⟩)), (7, I (u.b.length : Nat))]) (fun u => OwnSl 5 1 u.oa u.b.length u.c (bytesV u.b) :: Box b3 48 [I 0, I ((n % 3 : Nat) : Int), I 0, .slice u.oa u.b.length u.c, .slice none 0 0] :: OwnSl 48 5 x.oa x.l.length x.c (opsV x.l) :: M) (fun u => CellsF pq.1 pq.2 (ints xs) :: AllO x.l :: F) (fun u => 5 - u.b.length) ⟨[], none, 0⟩ ⟨Nat.zero_le _, trivial⟩ ⟨rfl, rfl, rfl, rfl, rfl, rfl, trivial⟩ (fun w hw => OwnSl.nil_new 5 1 (hw.to 2 [0, 1] 2 [0, 1] rfl)) (fun u hu => ?_)
        refine TR.seq ?_
        refine TR.seq ?_
        refine TR.region ?_
        refine RL.move rfl rfl rfl ?_
        refine RL.move rfl rfl rfl ?_
        refine RL.bin rfl rfl rfl (BinV.quo (by decide) ((n / 3 : Nat) : Int) (by rw [Int.tdiv_eq_ediv_of_nonneg (by omega)]; omega) (by omega) (by omega)) rfl ?_
        refine RL.bin rfl rfl rfl (BinV.remK (a := n / 3) (b := 6) (by decide)) rfl ?_
        refine RL.bin rfl rfl rfl BinV.lss rfl ?_
        refine RL.nil ?_
        refine NX.seq ?_
        refine TR.cond rfl (fun h21 => ?_) (fun h21 => ?_)
        · skip
          have hu3 : u.b.length < n / 3 % 6 := by have := of_decide_eq_true h21; omega
          refine TR.skip ?_
          refine NX.seq ?_
          refine TR.seq ?_
          refine TR.block ?_
          refine TR.sub (E' := [(0, _), (3, _), (4, _), (5, _), (6, _), (7, _), (32, _), (33, _), (34, _), (35, _), (36, _)]) ⟨rfl, rfl, rfl, rfl, rfl, rfl, rfl, rfl, rfl, rfl, rfl, trivial⟩ ?_
          refine TR.draw mixed ?_
          apply AR.more [(0, _), (1, _), (2, _), (3, _), (4, _), (5, _), (6, _), (7, _), (8, _), (9, _)]
          refine AR.eff [0, 1, 2, 3, 4, 5, 6, 7, 8, 9] 10 [0, 1, 2, 3, 4, 5, 6, 7, 8, 9, 10, 11, 12, 13] ⟨QOne.yes rfl rfl rfl (PV.fieldAddr ec_tf48_3 rfl), QOne.yes rfl rfl rfl (PV.load1 1 ec_ts27 rfl rfl rfl), QOne.yes rfl rfl rfl (PV.move rfl), QOne.yes rfl rfl rfl (PV.move rfl), QOne.yes rfl rfl rfl (PV.indexAddr ec_tl33 ec_tz3 (congrArg (fun a => some (Value.slice a _ _)) hpa) rfl (by omega) (by omega)), QOne.yes rfl rfl rfl (PV.loadF rfl (fun w K hF => run_loadCell1 (j := ((x.i : Nat) : Int).toNat * 1) (v := I xs[x.i]) (hF (CellsF pq.1 pq.2 (ints xs)) (.head _)) ec_ts3 (by rw [Nat.mul_one, Int.toNat_natCast]; exact ints_get hik))), QOne.yes rfl rfl rfl (PV.move rfl), QOne.yes rfl rfl rfl (PV.conv rfl ((ConvV.iu64 ec_ti3 ec_ti75).to (v'' := U u.b.length) (by rw [show u64of ((u.b.length : Nat) : Int) = u.b.length by unfold u64of; omega]))), QOne.yes rfl rfl rfl (PV.bin rfl rfl (BinV.shr (k := .i64) (yk := .u64) (x := xs[x.i]) (s := u.b.length) (by show _ ≤ 64; omega))), QOne.yes rfl rfl rfl (PV.conv rfl ((ConvV.int (n := xs[x.i].fdiv (2 ^ u.b.length)) ec_ti3 ec_ti5).to (v'' := B8 (IntKind.u8.wrap (xs[x.i].fdiv (2 ^ u.b.length))).toNat) (by show Value.int .u8 (IntKind.u8.wrap (xs[x.i].fdiv (2 ^ u.b.length))) = .int .u8 (((IntKind.u8.wrap (xs[x.i].fdiv (2 ^ u.b.length))).toNat : Nat) : Int); rw [← (byte_wrap _).1]))), trivial⟩ rfl rfl rfl rfl rfl rfl rfl (EV.buildSlice rfl (ec_bs27_1_0 _)) (fun b22 => ?_)
          refine AR.done [9, 8, 5, 7, 6, 4, 2, 3] rfl ?_
          refine AR.eff [0, 1] 11 [0, 1, 2, 3, 4, 5, 6, 7, 8, 9, 10, 11, 12, 13] ⟨QOne.yes rfl rfl rfl (PV.fieldAddr ec_tf48_3 rfl), QOne.yes rfl rfl rfl (PV.load1 2 ec_ts27 rfl rfl rfl), trivial⟩ rfl rfl rfl rfl rfl rfl rfl (EV.ofGV (GV.append (j := 1) ec_tl27 ec_ni27 ec_te5 rfl rfl rfl (src_box (i := 0) rfl rfl rfl) (by omega) (by omega))) (fun z => ?_)
          refine AR.done [1, 0] rfl ?_
          apply AR.more [(12, _)]
          refine AR.eff [12] 13 [0, 1, 2, 3, 4, 5, 6, 7, 8, 9, 10, 11, 12, 13] ⟨QOne.yes rfl rfl rfl (PV.fieldAddr ec_tf48_3 rfl), trivial⟩ rfl rfl rfl rfl rfl rfl rfl (EV.store1 2 ec_ts27 rfl rfl rfl rfl rfl) (fun _ => ?_)
          refine AR.done [12] rfl ?_
          refine AR.last [] [0, 1, 2, 3, 4, 5, 6, 7, 8, 9, 10, 11, 12, 13] trivial rfl rfl rfl ?_
          refine NX.sub (E' := [(0, _), (3, _), (4, _), (5, _), (6, _), (7, _), (32, _), (33, _), (34, _), (35, _), (36, _), (39, _), (40, _), (41, _), (42, _), (43, _), (44, _), (45, _), (46, _), (47, _), (48, _), (49, _), (50, _), (51, _)]) ⟨rfl, rfl, rfl, rfl, rfl, rfl, rfl, rfl, rfl, rfl, rfl, rfl, rfl, rfl, rfl, rfl, rfl, rfl, rfl, rfl, rfl, rfl, rfl, rfl, trivial⟩ ?_
          refine NX.off ?_
          refine NX.seq ?_
          refine TR.region ?_
          refine RL.move rfl rfl rfl ?_
          refine RL.bin rfl rfl rfl (BinV.add ((u.b.length + 1 : Nat) : Int) (by omega) (by omega) (by omega)) rfl ?_
          refine RL.assign rfl rfl rfl ?_
          refine RL.nil ?_
          have hbw := (byte_wrap (xs[x.i].fdiv (2 ^ u.b.length))).2
          refine NX.roundP ⟨u.b ++ [UInt8.ofNat (IntKind.u8.wrap (xs[x.i].fdiv (2 ^ u.b.length))).toNat], z.1, z.2⟩ ⟨by show (u.b ++ [_]).length ≤ 5; rw [List.length_append]; simp; omega, trivial⟩ (by show 5 - (u.b ++ [_]).length < _; rw [List.length_append]; simp; omega) ⟨rfl, rfl, rfl, rfl, rfl, by show some (I ((u.b.length + 1 : Nat) : Int)) = some (I ((u.b ++ [_]).length : Nat)); rw [List.length_append]; rfl, trivial⟩ (fun w hw => (by
                      have h9 := (hw.to 4 [1, 2, 3] 2 [0, 1] rfl)
                      show St w (OwnSl 5 1 z.1 (u.b ++ [UInt8.ofNat (IntKind.u8.wrap (xs[x.i].fdiv (2 ^ u.b.length))).toNat]).length z.2 (bytesV (u.b ++ [UInt8.ofNat (IntKind.u8.wrap (xs[x.i].fdiv (2 ^ u.b.length))).toNat])) :: Box b3 48 [I 0, I ((n % 3 : Nat) : Int), I 0, .slice z.1 (u.b ++ [UInt8.ofNat (IntKind.u8.wrap (xs[x.i].fdiv (2 ^ u.b.length))).toNat]).length z.2, .slice none 0 0] :: _) _
                      rw [bytesV_append, List.length_append, show bytesV [UInt8.ofNat (IntKind.u8.wrap (xs[x.i].fdiv (2 ^ u.b.length))).toNat] = [B8 (IntKind.u8.wrap (xs[x.i].fdiv (2 ^ u.b.length))).toNat] by simp only [bytesV, List.map_cons, List.map_nil]; rw [u8_ofNat hbw]]
                      exact h9))
        · skip
          have hu3 := hu.1
          refine TR.exit ?_
          refine NX.exitThen ?_
          refine NX.exitThen ?_
          refine NX.exitHere ?_
          refine NX.off ?_
          refine NX.seq ?_
          refine TR.pick 3 [0, 1, 2] rfl ?_
          refine TR.weak (fun w hw => hw.keepSl) ?_
          refine TR.weak (fun w hw => hw.derive (ψ := ArrF none (ints [])) (fun K hf => .inl rfl)) ?_
          refine TR.weak (fun w hw => hw.allO_snoc (l := x.l) (o := ⟨0, ((n % 3 : Nat) : Int), 0, u.b, u.oa, u.c, [], none, 0⟩) (.tail _ (.tail _ (.tail _ (.head _)))) (.tail _ (.head _)) (.head _)) ?_
          have hok : OpOk ⟨0, ((n % 3 : Nat) : Int), 0, u.b, u.oa, u.c, [], none, 0⟩ := ⟨by dsimp; omega, by dsimp; omega, by dsimp; omega, by dsimp; omega, fun e => absurd (show (0 : Int) = 3 from e) (by decide), by dsimp; omega, by simp, by simp⟩
          refine TR.region ?_
          refine RL.move rfl rfl rfl ?_
          refine RL.loadA 0 rfl rfl rfl ec_ta48 rfl ?_
          refine RL.buildSlice rfl rfl (ec_bs44_1_0 _ _ _ _ _ _ _ _ _) rfl (fun b24 => ?_)
          refine RL.ofGV rfl rfl (GV.append (j := 2) ec_tl44 ec_ni44 ec_te48 rfl rfl rfl (src_box (i := 0) rfl rfl rfl) (by omega) (by omega)) (fun y => ?_)
          refine RL.assign rfl rfl rfl ?_
          refine RL.nil ?_
          refine NX.off ?_
          refine NX.seq ?_
          refine TR.region ?_
          refine RL.move rfl rfl rfl ?_
          refine RL.bin rfl rfl rfl (BinV.add ((x.i + 1 : Nat) : Int) (by omega) (by omega) (by omega)) rfl ?_
          refine RL.assign rfl rfl rfl ?_
          refine RL.nil ?_
          refine NX.roundP ⟨x.i + 1, x.l ++ [⟨0, ((n % 3 : Nat) : Int), 0, u.b, u.oa, u.c, [], none, 0⟩], y.1, y.2⟩ ⟨by show x.i + 1 ≤ 16; omega, by show (x.l ++ [_]).length = x.i + 1; rw [List.length_append, hx.2.1]; rfl, fun o ho => (List.mem_append.1 ho).elim (hx.2.2 o) (fun e => by rw [List.mem_singleton.1 e]; exact hok)⟩ (by show 16 - (x.i + 1) < _; omega) ⟨rfl, by show some (Value.slice y.1 (x.l.length + 1) y.2) = some (Value.slice y.1 (x.l ++ [_]).length y.2); rw [List.length_append]; rfl, rfl, trivial⟩ (fun w hw => (by
                  have h9 := (hw.to 3 [2] 5 [0] rfl)
                  show St w (OwnSl 48 5 y.1 (x.l ++ [_]).length y.2 (opsV (x.l ++ [_])) :: M) _
                  rw [opsV_snoc, List.length_append]
                  exact h9))
    · skip
      refine TR.exit ?_
      refine NX.exitThen ?_
      refine NX.exitThen ?_
      refine NX.exitHere ?_
      refine NX.seq ?_
      refine TR.seq ?_
      refine TR.region ?_
      refine RL.move rfl rfl rfl ?_
      refine RL.assign rfl rfl rfl ?_
      refine RL.nil ?_
      refine NX.seq ?_
      refine TR.ret ?_
      exact NX.ret1 (⟨(x.l, x.oa, x.c), by show x.l.length ≤ 16; have := hx.2.1; have := hx.1; omega, hx.2.2⟩ : {z : List OpX × Option Addr × Nat // z.1.length ≤ 16 ∧ ∀ o, o ∈ z.1 → OpOk o}) rfl rfl rfl (fun w hw => (hw.to 1 [0] 1 [0] rfl))
  · skip
    refine RL.skip rfl rfl rfl ?_
    refine RL.skip rfl rfl rfl ?_
    refine RL.pickF rfl rfl rfl rfl ?_
    refine RL.nil ?_
    refine NX.seq ?_
    refine TR.condF rfl ?_
    refine TR.exit ?_
    refine NX.exitThen ?_
    refine NX.exitThen ?_
    refine NX.exitHere ?_
    refine NX.seq ?_
    refine TR.seq ?_
    refine TR.region ?_
    refine RL.move rfl rfl rfl ?_
    refine RL.assign rfl rfl rfl ?_
    refine RL.nil ?_
    refine NX.seq ?_
    refine TR.ret ?_
    exact NX.ret1 (⟨(x.l, x.oa, x.c), by show x.l.length ≤ 16; have := hx.2.1; have := hx.1; omega, hx.2.2⟩ : {z : List OpX × Option Addr × Nat // z.1.length ≤ 16 ∧ ∀ o, o ∈ z.1 → OpOk o}) rfl rfl rfl (fun w hw => (hw.to 1 [0] 1 [0] rfl))

end Go.Proofs.Ytdnjoffkanjjhaa

namespace Go.Proofs.Ytdnjoffkanjjhaa
open Go.GL
set_option linter.unusedVariables false
theorem db_bs27_1_0 (x0 : Int) : BuildSV Try.prog 27 5 1 [(0, .int .u8 x0)] [.int .u8 x0] := fun w => by kernel_rfl
theorem db_bs27_2_0_1 (x0 : Int) (x1 : Int) : BuildSV Try.prog 27 5 2 [(0, .int .u8 x0), (1, .int .u8 x1)] [.int .u8 x0, .int .u8 x1] := fun w => by kernel_rfl
theorem db_bs27_3_0_1_2 (x0 : Int) (x1 : Int) (x2 : Int) : BuildSV Try.prog 27 5 3 [(0, .int .u8 x0), (1, .int .u8 x1), (2, .int .u8 x2)] [.int .u8 x0, .int .u8 x1, .int .u8 x2] := fun w => by kernel_rfl
theorem db_bs33_1_0 (x0 : Int) : BuildSV Try.prog 33 3 1 [(0, .int .i64 x0)] [.int .i64 x0] := fun w => by kernel_rfl
theorem db_tp23 : tyPtr Try.prog 23 66 = true := by kernel_rfl
set_option maxHeartbeats 1000000 in
theorem lives_spec {M : List HP} {F : List Fact} : Ctr Try.prog 18 [] M F Unit (fun _ => .bool true) (fun _ => M) (fun _ => F) := by
  refine Ctr.body Try.func18 rfl rfl ?_
  refine TR.seq ?_
  refine TR.region ?_
  refine RL.assign rfl rfl rfl ?_
  refine RL.nil ?_
  refine NX.seq ?_
  refine TR.seq ?_
  refine TR.region ?_
  refine RL.call rfl rfl Try.call10 rfl (new_d (k := 100) (by decide)) (fun z0 => ?_)
  refine RL.move rfl rfl rfl ?_
  refine RL.extract rfl rfl rfl rfl ?_
  refine RL.extract rfl rfl rfl rfl ?_
  refine RL.assign rfl rfl rfl ?_
  refine RL.assign rfl rfl rfl ?_
  refine RL.nil ?_
  refine NX.seq ?_
  refine TR.seq ?_
  refine TR.seq ?_
  refine TR.region ?_
  refine RL.move rfl rfl rfl ?_
  refine RL.bin rfl rfl rfl (BinV.eqlPtrNil db_tp23) rfl ?_
  refine RL.move rfl rfl rfl ?_
  refine RL.move rfl rfl rfl ?_
  refine RL.bin rfl rfl rfl (BinV.to (d := false) BinV.neq (decide_eq_false (by simp))) rfl ?_
  refine RL.pickF rfl rfl rfl rfl ?_
  refine RL.nil ?_
  refine NX.seq ?_
  refine TR.condF rfl ?_
  refine TR.skip ?_
  refine NX.seq ?_
  refine TR.seq ?_
  refine TR.region ?_
  refine RL.move rfl rfl rfl ?_
  refine RL.buildSlice rfl rfl (db_bs27_2_0_1 _ _) rfl (fun b1 => ?_)
  refine RL.weak (fun w hw => St.boxBytes [1, 2] rfl hw) ?_
  refine RL.call rfl rfl Try.call13 rfl (one_append (f := 3) (x := [1, 2]) (One.new (m := z0.2) (k := 100) (by decide) (by decide)) ⟨rfl, rfl⟩ (.tail _ (.head _)) (.head _) (by decide) (by show 0 + 2 ≤ 100; decide)) (fun q1 => ?_)
  refine RL.nil ?_
  refine NX.seq ?_
  refine TR.seq ?_
  refine TR.region ?_
  refine RL.move rfl rfl rfl ?_
  refine RL.call rfl rfl Try.call14 rfl (one_sync q1.2.1 q1.2.2.1 (.head _)) (fun q2 => ?_)
  refine RL.nil ?_
  refine NX.seq ?_
  refine TR.seq ?_
  refine TR.region ?_
  refine RL.move rfl rfl rfl ?_
  refine RL.buildSlice rfl rfl (db_bs27_1_0 _) rfl (fun b2 => ?_)
  refine RL.weak (fun w hw => St.boxBytes [255] rfl hw) ?_
  refine RL.call rfl rfl Try.call13 rfl (one_append (f := 3) (x := [255]) q2.2.1 q2.2.2.1 (.tail _ (.head _)) (.head _) (by decide) (by rw [q2.2.2.2, q1.2.2.2]; show 2 + 1 ≤ 100; decide)) (fun q3 => ?_)
  refine RL.nil ?_
  refine NX.seq ?_
  refine TR.seq ?_
  refine TR.region ?_
  refine RL.move rfl rfl rfl ?_
  refine RL.call rfl rfl Try.call29 rfl (copy_d (s := q3.1)) (fun zc => ?_)
  refine RL.weak (fun w hw => hw.derive (ψ := AllF ({ q3.1 with m := zc.2 } : Ds).fs) (fun K hf => hf (AllF (q3.1).fs) (.head _))) ?_
  refine RL.assign rfl rfl rfl ?_
  refine RL.nil ?_
  refine NX.seq ?_
  refine TR.seq ?_
  refine TR.region ?_
  refine RL.move rfl rfl rfl ?_
  refine RL.buildSlice rfl rfl (db_bs33_1_0 _) rfl (fun b3 => ?_)
  refine RL.weak (fun w hw => St.boxArr (show St w (Box _ _ (ints [1]) :: _) _ from hw)) ?_
  refine RL.call rfl rfl Try.call15 rfl (Ctr.pick 2 [1, 0] rfl (one_crash (keep := [1]) (flip := 7) q3.2.1 (.tail _ (.tail _ (.head _))) (.head _) ⟨by decide, by decide⟩ ⟨by decide, by decide⟩)) (fun q4 => ?_)
  refine RL.nil ?_
  refine NX.seq ?_
  refine TR.seq ?_
  refine TR.seq ?_
  refine TR.region ?_
  refine RL.move rfl rfl rfl ?_
  refine RL.bin rfl rfl rfl (BinV.eqlPtrNil db_tp23) rfl ?_
  refine RL.nil ?_
  refine NX.seq ?_
  refine TR.condF rfl ?_
  refine TR.skip ?_
  refine NX.seq ?_
  refine TR.seq ?_
  refine TR.weak (fun w hw => hw.derive (ψ := ArrF none (ints [])) (fun K hf => .inl rfl)) ?_
  refine TR.region ?_
  refine RL.move rfl rfl rfl ?_
  refine RL.call rfl rfl Try.call15 rfl (Ctr.pick 2 [1, 0] rfl (one_crash (keep := []) (flip := 7) (q3.2.1.copy (m := zc.2)) (.tail _ (.tail _ (.tail _ (.head _)))) (.head _) ⟨by decide, by decide⟩ ⟨by decide, by decide⟩)) (fun q5 => ?_)
  refine RL.nil ?_
  refine NX.seq ?_
  refine TR.seq ?_
  refine TR.region ?_
  refine RL.move rfl rfl rfl ?_
  refine RL.call rfl rfl Try.call16 rfl (Ctr.pick 2 [1, 0] rfl (one_read (y := cr1 ([] ++ [1, 2] ++ [255] : List UInt8) ([] ++ [1, 2] : List UInt8).length [1] 7) q4.2.1 q4.2.2.1 (.tail _ (.tail _ (.head _))))) (fun rx => ?_)
  refine RL.weak (fun w hw => hw.keepSl) ?_
  refine RL.move rfl rfl rfl ?_
  refine RL.extract rfl rfl rfl rfl ?_
  refine RL.extract rfl rfl rfl rfl ?_
  refine RL.assign rfl rfl rfl ?_
  refine RL.assign rfl rfl rfl ?_
  refine RL.nil ?_
  refine NX.seq ?_
  refine TR.seq ?_
  refine TR.region ?_
  refine RL.move rfl rfl rfl ?_
  refine RL.call rfl rfl Try.call16 rfl (Ctr.pick 2 [1, 0] rfl (one_read (y := cr1 ([] ++ [1, 2] ++ [255] : List UInt8) ([] ++ [1, 2] : List UInt8).length [] 7) q5.2.1 q5.2.2.1 (.tail _ (.head _)))) (fun ry => ?_)
  refine RL.weak (fun w hw => hw.keepSl) ?_
  refine RL.move rfl rfl rfl ?_
  refine RL.extract rfl rfl rfl rfl ?_
  refine RL.extract rfl rfl rfl rfl ?_
  refine RL.assign rfl rfl rfl ?_
  refine RL.assign rfl rfl rfl ?_
  refine RL.nil ?_
  refine NX.seq ?_
  refine TR.seq ?_
  refine TR.region ?_
  refine RL.move rfl rfl rfl ?_
  refine RL.call rfl rfl Try.call27 rfl (arm_d (n := 0) (s := q5.1)) (fun _ => ?_)
  have hon := armS_on (n := 0) q5.2.2.1.off
  have hk5 : OkF (armS q5.1 0).fs := by rw [armS_fs]; exact q5.2.1.ok
  have hr5 : Rm (armS q5.1 0) := q5.2.1.rm.arm
  refine RL.weak (fun w hw => hw.derive (ψ := AllF (armS q5.1 0).fs) (fun K hf => by rw [armS_fs]; exact hf (AllF q5.1.fs) (.tail _ (.tail _ (.head _))))) ?_
  refine RL.nil ?_
  refine NX.seq ?_
  refine TR.seq ?_
  refine TR.weak (fun w hw => hw.derive (ψ := ArrF none (bytesV [])) (fun K hf => .inl rfl)) ?_
  refine TR.region ?_
  refine RL.move rfl rfl rfl ?_
  refine RL.call rfl rfl Try.call13 rfl (dapp_d (n := ((1 : Nat) : Int)) (s := (armS q5.1 0)) (x := []) hk5 (q5.2.1.lft.arm (by decide) (by decide)) hr5 (.tail _ (.head _)) (.head _) ⟨by decide, by decide⟩ (by decide)) (fun z6 => ?_)
  have hf6 := append_fails (s := (armS q5.1 0)) (n := ((1 : Nat) : Int)) (x := []) (z := z6.1) (q5.2.1.lft.arm (by decide) (by decide)) (by rw [hon]; exact q5.2.2.1.off) (by rw [hon]; rfl) (by rw [hon]) ⟨by decide, by decide⟩ hr5.used
  rw [hf6.1]
  refine RL.assign rfl rfl rfl ?_
  refine RL.nil ?_
  refine NX.seq ?_
  refine TR.seq ?_
  refine TR.region ?_
  refine RL.move rfl rfl rfl ?_
  refine RL.call rfl rfl Try.call16 rfl (read_d (n := ((3 : Nat) : Int)) (s := (appS (armS q5.1 0) (1 : Nat) [] z6.1)) (appS_ok hk5 z6.2) (appS_rm hk5 hr5 z6.2) (.head _) ⟨by decide, by decide⟩) (fun rz => ?_)
  rw [(read_off (n := ((3 : Nat) : Int)) ⟨by decide, by decide⟩ hf6.2).1]
  refine RL.weak (fun w hw => hw.drop 0 rfl) ?_
  refine RL.move rfl rfl rfl ?_
  refine RL.extract rfl rfl rfl rfl ?_
  refine RL.extract rfl rfl rfl rfl ?_
  refine RL.assign rfl rfl rfl ?_
  refine RL.assign rfl rfl rfl ?_
  refine RL.nil ?_
  refine NX.seq ?_
  refine TR.seq ?_
  refine TR.region ?_
  refine RL.move rfl rfl rfl ?_
  refine RL.bin rfl rfl rfl (BinV.to (d := true) BinV.eql (decide_eq_true rfl)) rfl ?_
  refine RL.move rfl rfl rfl ?_
  refine RL.move rfl rfl rfl ?_
  refine RL.bin rfl rfl rfl (BinV.to (d := true) BinV.eql (decide_eq_true rfl)) rfl ?_
  refine RL.pickT rfl rfl rfl rfl ?_
  refine RL.move rfl rfl rfl ?_
  refine RL.move rfl rfl rfl ?_
  refine RL.buildSlice rfl rfl (db_bs27_3_0_1_2 _ _ _) rfl (fun b4 => ?_)
  refine RL.weak (fun w hw => St.boxBytes [1, 2, 254] rfl hw) ?_
  refine RL.call rfl rfl Try.call17 rfl (Ctr.boolT (decide_eq_true (show cr1 ([] ++ [1, 2] ++ [255] : List UInt8) ([] ++ [1, 2] : List UInt8).length [1] 7 = [1, 2, 254] by decide +kernel)) (sameB_spec (xs := cr1 ([] ++ [1, 2] ++ [255] : List UInt8) ([] ++ [1, 2] : List UInt8).length [1] 7) (ys := [1, 2, 254]) (.tail _ (.tail _ (.tail _ (.tail _ (.tail _ (.head _)))))) (.head _) (by rw [show cr1 ([] ++ [1, 2] ++ [255] : List UInt8) ([] ++ [1, 2] : List UInt8).length [1] 7 = [1, 2, 254] by decide +kernel]; decide))) (fun _ => ?_)
  refine RL.pickT rfl rfl rfl rfl ?_
  refine RL.move rfl rfl rfl ?_
  refine RL.move rfl rfl rfl ?_
  refine RL.buildSlice rfl rfl (db_bs27_2_0_1 _ _) rfl (fun b5 => ?_)
  refine RL.weak (fun w hw => St.boxBytes [1, 2] rfl hw) ?_
  refine RL.call rfl rfl Try.call17 rfl (Ctr.boolT (decide_eq_true (show cr1 ([] ++ [1, 2] ++ [255] : List UInt8) ([] ++ [1, 2] : List UInt8).length [] 7 = [1, 2] by decide +kernel)) (sameB_spec (xs := cr1 ([] ++ [1, 2] ++ [255] : List UInt8) ([] ++ [1, 2] : List UInt8).length [] 7) (ys := [1, 2]) (.tail _ (.tail _ (.tail _ (.tail _ (.tail _ (.head _)))))) (.head _) (by rw [show cr1 ([] ++ [1, 2] ++ [255] : List UInt8) ([] ++ [1, 2] : List UInt8).length [] 7 = [1, 2] by decide +kernel]; decide))) (fun _ => ?_)
  refine RL.pickT rfl rfl rfl rfl ?_
  refine RL.move rfl rfl rfl ?_
  refine RL.move rfl rfl rfl ?_
  refine RL.bin rfl rfl rfl (BinV.to (d := true) BinV.eql (decide_eq_true rfl)) rfl ?_
  refine RL.pickT rfl rfl rfl rfl ?_
  refine RL.move rfl rfl rfl ?_
  refine RL.move rfl rfl rfl ?_
  refine RL.bin rfl rfl rfl (BinV.to (d := true) BinV.eql (decide_eq_true rfl)) rfl ?_
  refine RL.pickT rfl rfl rfl rfl ?_
  refine RL.assign rfl rfl rfl ?_
  refine RL.nil ?_
  refine NX.seq ?_
  refine TR.ret ?_
  exact NX.ret1 () rfl rfl rfl (fun w hw => (hw.to 2 [] 18 [] rfl))

end Go.Proofs.Ytdnjoffkanjjhaa

namespace Go.Proofs.Ytdnjoffkanjjhaa
open Go.GL
set_option linter.unusedVariables false
theorem ed_tf48_0 : fieldOff Try.prog 48 0 0 = true := by kernel_rfl
theorem ed_tf48_1 : fieldOff Try.prog 48 1 1 = true := by kernel_rfl
theorem ed_tf48_2 : fieldOff Try.prog 48 2 2 = true := by kernel_rfl
theorem ed_tf48_3 : fieldOff Try.prog 48 3 3 = true := by kernel_rfl
theorem ed_tf48_4 : fieldOff Try.prog 48 4 4 = true := by kernel_rfl
theorem ed_ts27 : tyScalar Try.prog 27 = true := by kernel_rfl
theorem ed_ts3 : tyScalar Try.prog 3 = true := by kernel_rfl
theorem ed_ts33 : tyScalar Try.prog 33 = true := by kernel_rfl
theorem p_append {n : Int} {x : List UInt8} {ob : Option Addr} {cb : Nat} {b : Nat} {s : Ds} {a : Am} {M : List HP} {F : List Fact} (h : RelP s a) (hA : AllF s.fs ∈ F) (hx : ArrF ob (bytesV x) ∈ F) (hn : I64 n) (hxl : x.length ≤ 4398046511104) : Ctr Try.prog 13 [.pointer (some ⟨b, 0, none⟩), I n, .slice ob x.length cb] (DkB 66 b (s) :: M) F {q : Ds // RelP q (appA a n x).2} (fun _ => I (appA a n x).1) (fun q => DkB 66 b q.1 :: M) (fun q => AllF q.1.fs :: F) :=
  (dapp_d h.ok h.lft h.rm hA hx hn hxl).weak (fun w hw => hw) (fun z => ⟨appS s n x z.1, (h.append z.2).2⟩) (fun z => by show I (appE s n x) = _; rw [(h.append z.2).1]) (fun z w hw => hw)

theorem p_sync  {b : Nat} {s : Ds} {a : Am} {M : List HP} {F : List Fact} (h : RelP s a) (hA : AllF s.fs ∈ F)  : Ctr Try.prog 14 [.pointer (some ⟨b, 0, none⟩)] (DkB 66 b (s) :: M) F {q : Ds // RelP q (syncA a).2} (fun _ => I (syncA a).1) (fun q => DkB 66 b q.1 :: M) (fun q => AllF q.1.fs :: F) :=
  (sync_d h.ok h.lft hA).weak (fun w hw => hw) (fun _ => ⟨syncS s, h.sync.2⟩) (fun _ => by show I (syncE s) = _; rw [h.sync.1]) (fun _ w hw => hw)

theorem p_trunc {n k : Int} {b : Nat} {s : Ds} {a : Am} {M : List HP} {F : List Fact} (h : RelP s a) (hA : AllF s.fs ∈ F) (hn : I64 n) : Ctr Try.prog 19 [.pointer (some ⟨b, 0, none⟩), I n, I k] (DkB 66 b (s) :: M) F {q : Ds // RelP q (truncA a n k).2} (fun _ => I (truncA a n k).1) (fun q => DkB 66 b q.1 :: M) (fun q => AllF q.1.fs :: F) :=
  (trunc_d h.ok h.lft hA hn).weak (fun w hw => hw) (fun _ => ⟨truncS s n k, h.trunc.2⟩) (fun _ => by show I (truncE s n k) = _; rw [h.trunc.1]) (fun _ w hw => hw)

theorem p_arm {n : Int} {b : Nat} {s : Ds} {a : Am} {M : List HP} {F : List Fact} (h : RelP s a) (hA : AllF s.fs ∈ F) (hn0 : -1 ≤ n) (hn1 : n ≤ 4611686018427387904) : Ctr Try.prog 27 [.pointer (some ⟨b, 0, none⟩), I n] (DkB 66 b (s) :: M) F {q : Ds // RelP q (armA a n)} (fun _ => .tuple #[]) (fun q => DkB 66 b q.1 :: M) (fun q => AllF q.1.fs :: F) :=
  (arm_d (s := s)).weak (fun w hw => hw) (fun _ => ⟨armS s n, h.arm hn0 hn1⟩) (fun _ => rfl) (fun _ w hw => hw.derive (ψ := AllF (armS s n).fs) (fun K hf => by rw [armS_fs]; exact hf _ hA))

theorem p_crash {ks : List Int} {fl : Int} {ok : Option Addr} {ck : Nat} {b : Nat} {s : Ds} {a : Am} {M : List HP} {F : List Fact} (h : RelP s a) (hA : AllF s.fs ∈ F) (hK : ArrF ok (ints ks) ∈ F) (hks : IntsOk ks) (hfl : I64 fl) : Ctr Try.prog 15 [.pointer (some ⟨b, 0, none⟩), .slice ok ks.length ck, I fl] (DkB 66 b (s) :: M) F {q : Ds // RelP q (crashA a ks fl)} (fun _ => .tuple #[]) (fun q => DkB 66 b q.1 :: M) (fun q => AllF q.1.fs :: F) :=
  (crash_d h.ok hA hK hks (Nat.le_trans h.rm.used h.rm.room) hfl).weak (fun w hw => hw) (fun t => ⟨t.1, h.crash t.2⟩) (fun _ => rfl) (fun _ w hw => hw)

theorem p_used {b : Nat} {s : Ds} {a : Am} {M : List HP} {F : List Fact} (h : RelP s a) : Ctr Try.prog 20 [.pointer (some ⟨b, 0, none⟩)] (DkB 66 b (s) :: M) F Unit (fun _ => I (usedA a.B : Nat)) (fun _ => DkB 66 b (s) :: M) (fun _ => F) := (used_d h.ok h.rm).weak (fun w hw => hw) id (fun _ => by rw [h.used]) (fun _ w hw => hw)

theorem p_on {b : Nat} {s : Ds} {a : Am} {M : List HP} {F : List Fact} (h : RelP s a) : Ctr Try.prog 28 [.pointer (some ⟨b, 0, none⟩)] (DkB 66 b (s) :: M) F Unit (fun _ => .bool (!a.off)) (fun _ => DkB 66 b (s) :: M) (fun _ => F) := on_d.weak (fun w hw => hw) id (fun _ => by rw [h.off]) (fun _ w hw => hw)

theorem p_files {b : Nat} {s : Ds} {a : Am} {M : List HP} {F : List Fact} (h : RelP s a) : Ctr Try.prog 37 [.pointer (some ⟨b, 0, none⟩)] (DkB 66 b (s) :: M) F (Option Addr × Nat) (fun z => .slice z.1 (natI (filesB a.B)).length z.2) (fun _ => DkB 66 b (s) :: M) (fun z => ArrF z.1 (ints (natI (filesB a.B))) :: F) := by
  have e : srt (s.fs.map Prod.fst) = natI (filesB a.B) := by rw [files_srt h.ok, filesB_congr h.b]; rfl
  have h1 := Ctr.dk (ι := Option Addr × Nat) (M := M) (F' := fun _ => F) (T := 66) [] (fun z => [OwnSl 3 1 z.1 (srt (s.fs.map Prod.fst)).length z.2 (ints (srt (s.fs.map Prod.fst)))]) (fun _ => s) (files_spec (b := b) (s := s) (F := F) h.ok)
  rw [e] at h1
  exact h1.weak (fun w hw => hw) id (fun _ => rfl) (fun z w hw => St.keepSl hw)

theorem p_read {n : Nat} {b : Nat} {s : Ds} {a : Am} {M : List HP} {F : List Fact} (h : RelP s a) (hA : AllF s.fs ∈ F) (hn : n < 64) : Ctr Try.prog 16 [.pointer (some ⟨b, 0, none⟩), I (n : Int)] (DkB 66 b (s) :: M) F (Option Addr × Nat) (fun z => .tuple #[.slice z.1 (if a.off = true then [] else a.B n).length z.2, I (if a.off = true then 22 else 0)]) (fun _ => DkB 66 b (s) :: M) (fun z => ArrF z.1 (bytesV (if a.off = true then [] else a.B n)) :: F) := by
  have h1 := read_d (b := b) (s := s) (n := (n : Int)) (M := M) h.ok h.rm hA ⟨by omega, by omega⟩
  have hth : there (n : Int) := ⟨by omega, by omega⟩
  have e1 : readB s (n : Int) = if a.off = true then [] else a.B n := by unfold readB; rw [if_neg (not_not_intro hth), h.off, ← h.b n hn]; rfl
  have e2 : readE s (n : Int) = if a.off = true then 22 else 0 := by unfold readE; rw [if_neg (not_not_intro hth), h.off]
  rw [e1, e2] at h1
  exact h1.weak (fun w hw => hw) id (fun _ => rfl) (fun z w hw => St.keepSl hw)

theorem r_append {n : Int} {x : List UInt8} {ob : Option Addr} {cb : Nat} {c : Nat} {r : Rf} {M : List HP} {F : List Fact} (hr : RfOk r) (hB : AllB (rowsF r.a.B r.x) ∈ F) (hx : ArrF ob (bytesV x) ∈ F) (hxl : x.length ≤ 4398046511104) : Ctr Try.prog 38 [.pointer (some ⟨c, 0, none⟩), I n, .slice ob x.length cb] (RfB 58 27 3 c (r) :: M) F {q : Rf // RfOk q ∧ q.a = (appA r.a n x).2} (fun _ => I (appA r.a n x).1) (fun q => RfB 58 27 3 c (q.1) :: M) (fun q => AllB (rowsF q.1.a.B q.1.x) :: F) :=
  Ctr.rf (ι := {q : Rf // RfOk q ∧ q.a = (appA r.a n x).2}) (fun _ => []) (fun q => q.1) (rappend_spec hr hB hx hxl)

theorem r_sync  {c : Nat} {r : Rf} {M : List HP} {F : List Fact} (hr : RfOk r) (hB : AllB (rowsF r.a.B r.x) ∈ F)  : Ctr Try.prog 39 [.pointer (some ⟨c, 0, none⟩)] (RfB 58 27 3 c (r) :: M) F {q : Rf // RfOk q ∧ q.a = (syncA r.a).2} (fun _ => I (syncA r.a).1) (fun q => RfB 58 27 3 c (q.1) :: M) (fun q => AllB (rowsF q.1.a.B q.1.x) :: F) :=
  Ctr.rf (ι := {q : Rf // RfOk q ∧ q.a = (syncA r.a).2}) (fun _ => []) (fun q => q.1) (rsync_spec hr hB)

theorem r_trunc {n k : Int} {c : Nat} {r : Rf} {M : List HP} {F : List Fact} (hr : RfOk r) (hB : AllB (rowsF r.a.B r.x) ∈ F)  : Ctr Try.prog 40 [.pointer (some ⟨c, 0, none⟩), I n, I k] (RfB 58 27 3 c (r) :: M) F {q : Rf // RfOk q ∧ q.a = (truncA r.a n k).2} (fun _ => I (truncA r.a n k).1) (fun q => RfB 58 27 3 c (q.1) :: M) (fun q => AllB (rowsF q.1.a.B q.1.x) :: F) :=
  Ctr.rf (ι := {q : Rf // RfOk q ∧ q.a = (truncA r.a n k).2}) (fun _ => []) (fun q => q.1) (rtrunc_spec hr hB)

theorem r_arm {n : Int} {c : Nat} {r : Rf} {M : List HP} {F : List Fact} (hr : RfOk r) (hB : AllB (rowsF r.a.B r.x) ∈ F) (hn0 : -1 ≤ n) (hn1 : n ≤ 4611686018427387904) : Ctr Try.prog 41 [.pointer (some ⟨c, 0, none⟩), I n] (RfB 58 27 3 c (r) :: M) F {q : Rf // RfOk q ∧ q.a = armA r.a n} (fun _ => .tuple #[]) (fun q => RfB 58 27 3 c (q.1) :: M) (fun q => AllB (rowsF q.1.a.B q.1.x) :: F) :=
  Ctr.rf (ι := {q : Rf // RfOk q ∧ q.a = armA r.a n}) (fun _ => []) (fun q => q.1) (rarm_spec hr hB hn0 hn1)

theorem r_crash {ks : List Int} {fl : Int} {ok : Option Addr} {ck : Nat} {c : Nat} {r : Rf} {M : List HP} {F : List Fact} (hr : RfOk r) (hB : AllB (rowsF r.a.B r.x) ∈ F) (hK : ArrF ok (ints ks) ∈ F) (hks : IntsOk ks) (hfl : I64 fl) : Ctr Try.prog 42 [.pointer (some ⟨c, 0, none⟩), .slice ok ks.length ck, I fl] (RfB 58 27 3 c (r) :: M) F {q : Rf // RfOk q ∧ q.a = crashA r.a ks fl} (fun _ => .tuple #[]) (fun q => RfB 58 27 3 c (q.1) :: M) (fun q => AllB (rowsF q.1.a.B q.1.x) :: F) :=
  Ctr.rf (ι := {q : Rf // RfOk q ∧ q.a = crashA r.a ks fl}) (fun _ => []) (fun q => q.1) (rcrash_spec hr hB hK hks hfl)

theorem r_used {c : Nat} {r : Rf} {M : List HP} {F : List Fact} (hr : RfOk r) : Ctr Try.prog 43 [.pointer (some ⟨c, 0, none⟩)] (RfB 58 27 3 c (r) :: M) F Unit (fun _ => I (usedA r.a.B : Nat)) (fun _ => RfB 58 27 3 c (r) :: M) (fun _ => F) := Ctr.rf (ι := Unit) (fun _ => []) (fun _ => r) (rused_spec (by have := hr.us; have := hr.rm; omega))

theorem r_files {c : Nat} {r : Rf} {M : List HP} {F : List Fact} : Ctr Try.prog 45 [.pointer (some ⟨c, 0, none⟩)] (RfB 58 27 3 c (r) :: M) F (Option Addr × Nat) (fun z => .slice z.1 (natI (filesB r.a.B)).length z.2) (fun _ => RfB 58 27 3 c (r) :: M) (fun z => ArrF z.1 (ints (natI (filesB r.a.B))) :: F) := (Ctr.rf (ι := Option Addr × Nat) (F' := fun _ => F) (fun z => [OwnSl 3 1 z.1 (filesB r.a.B).length z.2 (ints (natI (filesB r.a.B)))]) (fun _ => r) (rfiles_spec (s := r) (b := c))).weak (fun w hw => hw) id (fun z => by rw [natI_len]; rfl) (fun z w hw => St.keepSl hw)

theorem r_new {k : Nat} {M : List HP} {F : List Fact} : Ctr Try.prog 21 [I k] M F (Nat × Option Addr × Option Addr) (fun z => .pointer (some ⟨z.1, 0, none⟩)) (fun z => RfB 58 27 3 z.1 (rf0 k z.2.1 z.2.2) :: M) (fun z => AllB (rowsF (rf0 k z.2.1 z.2.2).a.B (rf0 k z.2.1 z.2.2).x) :: F) := rnew_spec.weak (fun w hw => hw) id (fun _ => rfl) (fun z w hw => St.rfClose hw)

theorem do_spec {o : OpX} {b : Nat} {s : Ds} {a : Am} {M : List HP} {F : List Fact} (h : RelP s a) (hA : AllF s.fs ∈ F) (ho : OpOk o) (hob : ArrF o.ob (bytesV o.b) ∈ F) (hok : ArrF o.ok (ints o.ks) ∈ F) : Ctr Try.prog 23 [.pointer (some ⟨b, 0, none⟩), .agg o.c.toArray] (DkB 66 b (s) :: M) F {q : Ds // RelP q (opA a o).2} (fun _ => I (opA a o).1) (fun q => DkB 66 b q.1 :: M) (fun q => AllF q.1.fs :: F) := by
  refine Ctr.body Try.func23 rfl rfl ?_
  refine TR.seq ?_
  refine TR.region ?_
  refine RL.boxA rfl rfl rfl (fun b1 => ?_)
  refine RL.assign rfl rfl rfl ?_
  refine RL.nil ?_
  refine NX.seq ?_
  refine TR.seq ?_
  refine TR.seq ?_
  refine TR.region ?_
  refine RL.fieldAddr rfl ed_tf48_0 rfl rfl ?_
  refine RL.load1 0 rfl ed_ts3 rfl rfl rfl rfl ?_
  refine RL.nil ?_
  refine NX.seq ?_
  refine TR.block ?_
  refine TR.seq ?_
  refine TR.region ?_
  rcases (by omega : o.k = 0 ∨ o.k = 1 ∨ o.k = 2 ∨ o.k = 3 ∨ (o.k ≠ 0 ∧ o.k ≠ 1 ∧ o.k ≠ 2 ∧ o.k ≠ 3)) with hk | hk | hk | hk | hk
  · skip
    refine RL.bin rfl rfl rfl (BinV.to (d := true) BinV.eql (decide_eq_true hk)) rfl ?_
    refine RL.assign rfl rfl rfl ?_
    refine RL.nil ?_
    refine NX.seq ?_
    refine TR.condT rfl ?_
    refine TR.seq ?_
    refine TR.region ?_
    refine RL.move rfl rfl rfl ?_
    refine RL.fieldAddr rfl ed_tf48_1 rfl rfl ?_
    refine RL.load1 0 rfl ed_ts3 rfl rfl rfl rfl ?_
    refine RL.fieldAddr rfl ed_tf48_3 rfl rfl ?_
    refine RL.load1 0 rfl ed_ts27 rfl rfl rfl rfl ?_
    refine RL.call rfl rfl Try.call13 rfl (Ctr.pick 2 [1, 0] rfl (p_append h hA hob ⟨by have := ho.f0; omega, by have := ho.f1; omega⟩ (by have := ho.b; omega))) (fun q => ?_)
    refine RL.assign rfl rfl rfl ?_
    refine RL.nil ?_
    refine NX.seq ?_
    refine TR.ret ?_
    refine NX.retBlock ?_
    refine NX.retThen ?_
    have hop : opA a o = appA a o.f o.b := if_pos hk
    refine NX.ret1 (⟨q.1, by rw [hop]; exact q.2⟩ : {q : Ds // RelP q (opA a o).2}) rfl rfl (by rw [hop]) (fun w hw => (hw.to 2 [0] 1 [0] rfl))
  · skip
    refine RL.bin rfl rfl rfl (BinV.to (d := false) BinV.eql (decide_eq_false (by omega))) rfl ?_
    refine RL.assign rfl rfl rfl ?_
    refine RL.nil ?_
    refine NX.seq ?_
    refine TR.condF rfl ?_
    refine TR.seq ?_
    refine TR.region ?_
    refine RL.bin rfl rfl rfl (BinV.to (d := true) BinV.eql (decide_eq_true hk)) rfl ?_
    refine RL.assign rfl rfl rfl ?_
    refine RL.nil ?_
    refine NX.seq ?_
    refine TR.condT rfl ?_
    refine TR.seq ?_
    refine TR.region ?_
    refine RL.move rfl rfl rfl ?_
    refine RL.call rfl rfl Try.call14 rfl (Ctr.pick 2 [1, 0] rfl (p_sync h hA)) (fun q => ?_)
    refine RL.assign rfl rfl rfl ?_
    refine RL.nil ?_
    refine NX.seq ?_
    refine TR.ret ?_
    refine NX.retBlock ?_
    refine NX.retThen ?_
    have hop : opA a o = syncA a := (if_neg (by omega)).trans (if_pos hk)
    refine NX.ret1 (⟨q.1, by rw [hop]; exact q.2⟩ : {q : Ds // RelP q (opA a o).2}) rfl rfl (by rw [hop]) (fun w hw => (hw.to 2 [0] 1 [0] rfl))
  · skip
    refine RL.bin rfl rfl rfl (BinV.to (d := false) BinV.eql (decide_eq_false (by omega))) rfl ?_
    refine RL.assign rfl rfl rfl ?_
    refine RL.nil ?_
    refine NX.seq ?_
    refine TR.condF rfl ?_
    refine TR.seq ?_
    refine TR.region ?_
    refine RL.bin rfl rfl rfl (BinV.to (d := false) BinV.eql (decide_eq_false (by omega))) rfl ?_
    refine RL.assign rfl rfl rfl ?_
    refine RL.nil ?_
    refine NX.seq ?_
    refine TR.condF rfl ?_
    refine TR.seq ?_
    refine TR.region ?_
    refine RL.bin rfl rfl rfl (BinV.to (d := true) BinV.eql (decide_eq_true hk)) rfl ?_
    refine RL.assign rfl rfl rfl ?_
    refine RL.nil ?_
    refine NX.seq ?_
    refine TR.condT rfl ?_
    refine TR.seq ?_
    refine TR.region ?_
    refine RL.move rfl rfl rfl ?_
    refine RL.fieldAddr rfl ed_tf48_1 rfl rfl ?_
    refine RL.load1 0 rfl ed_ts3 rfl rfl rfl rfl ?_
    refine RL.fieldAddr rfl ed_tf48_2 rfl rfl ?_
    refine RL.load1 0 rfl ed_ts3 rfl rfl rfl rfl ?_
    refine RL.call rfl rfl Try.call19 rfl (Ctr.pick 2 [1, 0] rfl (p_trunc h hA ⟨by have := ho.f0; omega, by have := ho.f1; omega⟩)) (fun q => ?_)
    refine RL.assign rfl rfl rfl ?_
    refine RL.nil ?_
    refine NX.seq ?_
    refine TR.ret ?_
    refine NX.retBlock ?_
    refine NX.retThen ?_
    have hop : opA a o = truncA a o.f o.n := (if_neg (by omega)).trans ((if_neg (by omega)).trans (if_pos hk))
    refine NX.ret1 (⟨q.1, by rw [hop]; exact q.2⟩ : {q : Ds // RelP q (opA a o).2}) rfl rfl (by rw [hop]) (fun w hw => (hw.to 2 [0] 1 [0] rfl))
  · skip
    refine RL.bin rfl rfl rfl (BinV.to (d := false) BinV.eql (decide_eq_false (by omega))) rfl ?_
    refine RL.assign rfl rfl rfl ?_
    refine RL.nil ?_
    refine NX.seq ?_
    refine TR.condF rfl ?_
    refine TR.seq ?_
    refine TR.region ?_
    refine RL.bin rfl rfl rfl (BinV.to (d := false) BinV.eql (decide_eq_false (by omega))) rfl ?_
    refine RL.assign rfl rfl rfl ?_
    refine RL.nil ?_
    refine NX.seq ?_
    refine TR.condF rfl ?_
    refine TR.seq ?_
    refine TR.region ?_
    refine RL.bin rfl rfl rfl (BinV.to (d := false) BinV.eql (decide_eq_false (by omega))) rfl ?_
    refine RL.assign rfl rfl rfl ?_
    refine RL.nil ?_
    refine NX.seq ?_
    refine TR.condF rfl ?_
    refine TR.seq ?_
    refine TR.region ?_
    refine RL.bin rfl rfl rfl (BinV.to (d := true) BinV.eql (decide_eq_true hk)) rfl ?_
    refine RL.assign rfl rfl rfl ?_
    refine RL.nil ?_
    refine NX.seq ?_
    refine TR.condT rfl ?_
    refine TR.region ?_
    refine RL.move rfl rfl rfl ?_
    refine RL.fieldAddr rfl ed_tf48_2 rfl rfl ?_
    refine RL.load1 0 rfl ed_ts3 rfl rfl rfl rfl ?_
    refine RL.call rfl rfl Try.call27 rfl (Ctr.pick 2 [1, 0] rfl (p_arm h hA (ho.nk hk) (by have := ho.n1; omega))) (fun q => ?_)
    refine RL.nil ?_
    refine NX.off ?_
    refine NX.seq ?_
    refine TR.seq ?_
    refine TR.region ?_
    refine RL.assign rfl rfl rfl ?_
    refine RL.nil ?_
    refine NX.seq ?_
    refine TR.ret ?_
    have hop : opA a o = (0, armA a o.n) := (if_neg (by omega)).trans ((if_neg (by omega)).trans ((if_neg (by omega)).trans (if_pos hk)))
    refine NX.ret1 (⟨q.1, by rw [hop]; exact q.2⟩ : {q : Ds // RelP q (opA a o).2}) rfl rfl (by rw [hop]) (fun w hw => (hw.to 2 [0] 1 [0] rfl))
  · skip
    refine RL.bin rfl rfl rfl (BinV.to (d := false) BinV.eql (decide_eq_false (by omega))) rfl ?_
    refine RL.assign rfl rfl rfl ?_
    refine RL.nil ?_
    refine NX.seq ?_
    refine TR.condF rfl ?_
    refine TR.seq ?_
    refine TR.region ?_
    refine RL.bin rfl rfl rfl (BinV.to (d := false) BinV.eql (decide_eq_false (by omega))) rfl ?_
    refine RL.assign rfl rfl rfl ?_
    refine RL.nil ?_
    refine NX.seq ?_
    refine TR.condF rfl ?_
    refine TR.seq ?_
    refine TR.region ?_
    refine RL.bin rfl rfl rfl (BinV.to (d := false) BinV.eql (decide_eq_false (by omega))) rfl ?_
    refine RL.assign rfl rfl rfl ?_
    refine RL.nil ?_
    refine NX.seq ?_
    refine TR.condF rfl ?_
    refine TR.seq ?_
    refine TR.region ?_
    refine RL.bin rfl rfl rfl (BinV.to (d := false) BinV.eql (decide_eq_false (by omega))) rfl ?_
    refine RL.assign rfl rfl rfl ?_
    refine RL.nil ?_
    refine NX.seq ?_
    refine TR.condF rfl ?_
    refine TR.region ?_
    refine RL.move rfl rfl rfl ?_
    refine RL.fieldAddr rfl ed_tf48_4 rfl rfl ?_
    refine RL.load1 0 rfl ed_ts33 rfl rfl rfl rfl ?_
    refine RL.fieldAddr rfl ed_tf48_2 rfl rfl ?_
    refine RL.load1 0 rfl ed_ts3 rfl rfl rfl rfl ?_
    refine RL.call rfl rfl Try.call15 rfl (Ctr.pick 2 [1, 0] rfl (p_crash h hA hok ⟨by have := ho.kl; omega, fun v hv => by have := ho.kv v hv; omega⟩ ⟨by have := ho.n0; omega, by have := ho.n1; omega⟩)) (fun q => ?_)
    refine RL.nil ?_
    refine NX.off ?_
    refine NX.seq ?_
    refine TR.seq ?_
    refine TR.region ?_
    refine RL.assign rfl rfl rfl ?_
    refine RL.nil ?_
    refine NX.seq ?_
    refine TR.ret ?_
    have hop : opA a o = (0, crashA a o.ks o.n) := (if_neg (by omega)).trans ((if_neg (by omega)).trans ((if_neg (by omega)).trans (if_neg (by omega))))
    refine NX.ret1 (⟨q.1, by rw [hop]; exact q.2⟩ : {q : Ds // RelP q (opA a o).2}) rfl rfl (by rw [hop]) (fun w hw => (hw.to 2 [0] 1 [0] rfl))

theorem rdo_spec {o : OpX} {c : Nat} {r : Rf} {M : List HP} {F : List Fact} (hr : RfOk r) (hB : AllB (rowsF r.a.B r.x) ∈ F) (ho : OpOk o) (hob : ArrF o.ob (bytesV o.b) ∈ F) (hok : ArrF o.ok (ints o.ks) ∈ F) : Ctr Try.prog 24 [.pointer (some ⟨c, 0, none⟩), .agg o.c.toArray] (RfB 58 27 3 c (r) :: M) F {q : Rf // RfOk q ∧ q.a = (opA r.a o).2} (fun _ => I (opA r.a o).1) (fun q => RfB 58 27 3 c (q.1) :: M) (fun q => AllB (rowsF q.1.a.B q.1.x) :: F) := by
  refine Ctr.body Try.func24 rfl rfl ?_
  refine TR.seq ?_
  refine TR.region ?_
  refine RL.boxA rfl rfl rfl (fun b1 => ?_)
  refine RL.assign rfl rfl rfl ?_
  refine RL.nil ?_
  refine NX.seq ?_
  refine TR.seq ?_
  refine TR.seq ?_
  refine TR.region ?_
  refine RL.fieldAddr rfl ed_tf48_0 rfl rfl ?_
  refine RL.load1 0 rfl ed_ts3 rfl rfl rfl rfl ?_
  refine RL.nil ?_
  refine NX.seq ?_
  refine TR.block ?_
  refine TR.seq ?_
  refine TR.region ?_
  rcases (by omega : o.k = 0 ∨ o.k = 1 ∨ o.k = 2 ∨ o.k = 3 ∨ (o.k ≠ 0 ∧ o.k ≠ 1 ∧ o.k ≠ 2 ∧ o.k ≠ 3)) with hk | hk | hk | hk | hk
  · skip
    refine RL.bin rfl rfl rfl (BinV.to (d := true) BinV.eql (decide_eq_true hk)) rfl ?_
    refine RL.assign rfl rfl rfl ?_
    refine RL.nil ?_
    refine NX.seq ?_
    refine TR.condT rfl ?_
    refine TR.seq ?_
    refine TR.region ?_
    refine RL.move rfl rfl rfl ?_
    refine RL.fieldAddr rfl ed_tf48_1 rfl rfl ?_
    refine RL.load1 0 rfl ed_ts3 rfl rfl rfl rfl ?_
    refine RL.fieldAddr rfl ed_tf48_3 rfl rfl ?_
    refine RL.load1 0 rfl ed_ts27 rfl rfl rfl rfl ?_
    refine RL.call rfl rfl Try.call38 rfl (Ctr.pick 2 [1, 0] rfl (r_append hr hB hob (by have := ho.b; omega))) (fun q => ?_)
    refine RL.assign rfl rfl rfl ?_
    refine RL.nil ?_
    refine NX.seq ?_
    refine TR.ret ?_
    refine NX.retBlock ?_
    refine NX.retThen ?_
    have hop : opA r.a o = appA r.a o.f o.b := if_pos hk
    refine NX.ret1 (⟨q.1, q.2.1, by rw [hop]; exact q.2.2⟩ : {q : Rf // RfOk q ∧ q.a = (opA r.a o).2}) rfl rfl (by rw [hop]) (fun w hw => (hw.to 2 [0] 1 [0] rfl))
  · skip
    refine RL.bin rfl rfl rfl (BinV.to (d := false) BinV.eql (decide_eq_false (by omega))) rfl ?_
    refine RL.assign rfl rfl rfl ?_
    refine RL.nil ?_
    refine NX.seq ?_
    refine TR.condF rfl ?_
    refine TR.seq ?_
    refine TR.region ?_
    refine RL.bin rfl rfl rfl (BinV.to (d := true) BinV.eql (decide_eq_true hk)) rfl ?_
    refine RL.assign rfl rfl rfl ?_
    refine RL.nil ?_
    refine NX.seq ?_
    refine TR.condT rfl ?_
    refine TR.seq ?_
    refine TR.region ?_
    refine RL.move rfl rfl rfl ?_
    refine RL.call rfl rfl Try.call39 rfl (Ctr.pick 2 [1, 0] rfl (r_sync hr hB)) (fun q => ?_)
    refine RL.assign rfl rfl rfl ?_
    refine RL.nil ?_
    refine NX.seq ?_
    refine TR.ret ?_
    refine NX.retBlock ?_
    refine NX.retThen ?_
    have hop : opA r.a o = syncA r.a := (if_neg (by omega)).trans (if_pos hk)
    refine NX.ret1 (⟨q.1, q.2.1, by rw [hop]; exact q.2.2⟩ : {q : Rf // RfOk q ∧ q.a = (opA r.a o).2}) rfl rfl (by rw [hop]) (fun w hw => (hw.to 2 [0] 1 [0] rfl))
  · skip
    refine RL.bin rfl rfl rfl (BinV.to (d := false) BinV.eql (decide_eq_false (by omega))) rfl ?_
    refine RL.assign rfl rfl rfl ?_
    refine RL.nil ?_
    refine NX.seq ?_
    refine TR.condF rfl ?_
    refine TR.seq ?_
    refine TR.region ?_
    refine RL.bin rfl rfl rfl (BinV.to (d := false) BinV.eql (decide_eq_false (by omega))) rfl ?_
    refine RL.assign rfl rfl rfl ?_
    refine RL.nil ?_
    refine NX.seq ?_
    refine TR.condF rfl ?_
    refine TR.seq ?_
    refine TR.region ?_
    refine RL.bin rfl rfl rfl (BinV.to (d := true) BinV.eql (decide_eq_true hk)) rfl ?_
    refine RL.assign rfl rfl rfl ?_
    refine RL.nil ?_
    refine NX.seq ?_
    refine TR.condT rfl ?_
    refine TR.seq ?_
    refine TR.region ?_
    refine RL.move rfl rfl rfl ?_
    refine RL.fieldAddr rfl ed_tf48_1 rfl rfl ?_
    refine RL.load1 0 rfl ed_ts3 rfl rfl rfl rfl ?_
    refine RL.fieldAddr rfl ed_tf48_2 rfl rfl ?_
    refine RL.load1 0 rfl ed_ts3 rfl rfl rfl rfl ?_
    refine RL.call rfl rfl Try.call40 rfl (Ctr.pick 2 [1, 0] rfl (r_trunc hr hB)) (fun q => ?_)
    refine RL.assign rfl rfl rfl ?_
    refine RL.nil ?_
    refine NX.seq ?_
    refine TR.ret ?_
    refine NX.retBlock ?_
    refine NX.retThen ?_
    have hop : opA r.a o = truncA r.a o.f o.n := (if_neg (by omega)).trans ((if_neg (by omega)).trans (if_pos hk))
    refine NX.ret1 (⟨q.1, q.2.1, by rw [hop]; exact q.2.2⟩ : {q : Rf // RfOk q ∧ q.a = (opA r.a o).2}) rfl rfl (by rw [hop]) (fun w hw => (hw.to 2 [0] 1 [0] rfl))
  · skip
    refine RL.bin rfl rfl rfl (BinV.to (d := false) BinV.eql (decide_eq_false (by omega))) rfl ?_
    refine RL.assign rfl rfl rfl ?_
    refine RL.nil ?_
    refine NX.seq ?_
    refine TR.condF rfl ?_
    refine TR.seq ?_
    refine TR.region ?_
    refine RL.bin rfl rfl rfl (BinV.to (d := false) BinV.eql (decide_eq_false (by omega))) rfl ?_
    refine RL.assign rfl rfl rfl ?_
    refine RL.nil ?_
    refine NX.seq ?_
    refine TR.condF rfl ?_
    refine TR.seq ?_
    refine TR.region ?_
    refine RL.bin rfl rfl rfl (BinV.to (d := false) BinV.eql (decide_eq_false (by omega))) rfl ?_
    refine RL.assign rfl rfl rfl ?_
    refine RL.nil ?_
    refine NX.seq ?_
    refine TR.condF rfl ?_
    refine TR.seq ?_
    refine TR.region ?_
    refine RL.bin rfl rfl rfl (BinV.to (d := true) BinV.eql (decide_eq_true hk)) rfl ?_
    refine RL.assign rfl rfl rfl ?_
    refine RL.nil ?_
    refine NX.seq ?_
    refine TR.condT rfl ?_
    refine TR.region ?_
    refine RL.move rfl rfl rfl ?_
    refine RL.fieldAddr rfl ed_tf48_2 rfl rfl ?_
    refine RL.load1 0 rfl ed_ts3 rfl rfl rfl rfl ?_
    refine RL.call rfl rfl Try.call41 rfl (Ctr.pick 2 [1, 0] rfl (r_arm hr hB (ho.nk hk) (by have := ho.n1; omega))) (fun q => ?_)
    refine RL.nil ?_
    refine NX.off ?_
    refine NX.seq ?_
    refine TR.seq ?_
    refine TR.region ?_
    refine RL.assign rfl rfl rfl ?_
    refine RL.nil ?_
    refine NX.seq ?_
    refine TR.ret ?_
    have hop : opA r.a o = (0, armA r.a o.n) := (if_neg (by omega)).trans ((if_neg (by omega)).trans ((if_neg (by omega)).trans (if_pos hk)))
    refine NX.ret1 (⟨q.1, q.2.1, by rw [hop]; exact q.2.2⟩ : {q : Rf // RfOk q ∧ q.a = (opA r.a o).2}) rfl rfl (by rw [hop]) (fun w hw => (hw.to 2 [0] 1 [0] rfl))
  · skip
    refine RL.bin rfl rfl rfl (BinV.to (d := false) BinV.eql (decide_eq_false (by omega))) rfl ?_
    refine RL.assign rfl rfl rfl ?_
    refine RL.nil ?_
    refine NX.seq ?_
    refine TR.condF rfl ?_
    refine TR.seq ?_
    refine TR.region ?_
    refine RL.bin rfl rfl rfl (BinV.to (d := false) BinV.eql (decide_eq_false (by omega))) rfl ?_
    refine RL.assign rfl rfl rfl ?_
    refine RL.nil ?_
    refine NX.seq ?_
    refine TR.condF rfl ?_
    refine TR.seq ?_
    refine TR.region ?_
    refine RL.bin rfl rfl rfl (BinV.to (d := false) BinV.eql (decide_eq_false (by omega))) rfl ?_
    refine RL.assign rfl rfl rfl ?_
    refine RL.nil ?_
    refine NX.seq ?_
    refine TR.condF rfl ?_
    refine TR.seq ?_
    refine TR.region ?_
    refine RL.bin rfl rfl rfl (BinV.to (d := false) BinV.eql (decide_eq_false (by omega))) rfl ?_
    refine RL.assign rfl rfl rfl ?_
    refine RL.nil ?_
    refine NX.seq ?_
    refine TR.condF rfl ?_
    refine TR.region ?_
    refine RL.move rfl rfl rfl ?_
    refine RL.fieldAddr rfl ed_tf48_4 rfl rfl ?_
    refine RL.load1 0 rfl ed_ts33 rfl rfl rfl rfl ?_
    refine RL.fieldAddr rfl ed_tf48_2 rfl rfl ?_
    refine RL.load1 0 rfl ed_ts3 rfl rfl rfl rfl ?_
    refine RL.call rfl rfl Try.call42 rfl (Ctr.pick 2 [1, 0] rfl (r_crash hr hB hok ⟨by have := ho.kl; omega, fun v hv => by have := ho.kv v hv; omega⟩ ⟨by have := ho.n0; omega, by have := ho.n1; omega⟩)) (fun q => ?_)
    refine RL.nil ?_
    refine NX.off ?_
    refine NX.seq ?_
    refine TR.seq ?_
    refine TR.region ?_
    refine RL.assign rfl rfl rfl ?_
    refine RL.nil ?_
    refine NX.seq ?_
    refine TR.ret ?_
    have hop : opA r.a o = (0, crashA r.a o.ks o.n) := (if_neg (by omega)).trans ((if_neg (by omega)).trans ((if_neg (by omega)).trans (if_neg (by omega))))
    refine NX.ret1 (⟨q.1, q.2.1, by rw [hop]; exact q.2.2⟩ : {q : Rf // RfOk q ∧ q.a = (opA r.a o).2}) rfl rfl (by rw [hop]) (fun w hw => (hw.to 2 [0] 1 [0] rfl))

end Go.Proofs.Ytdnjoffkanjjhaa

namespace Go.Proofs.Ytdnjoffkanjjhaa
open Go.GL
set_option linter.unusedVariables false
theorem ee_ta48 : tyAgg Try.prog 48 5 = true := by kernel_rfl
theorem ee_tb4 : tyBool Try.prog 4 = true := by kernel_rfl
theorem ee_tf58_1 : fieldOff Try.prog 58 1 1 = true := by kernel_rfl
theorem ee_tf58_3 : fieldOff Try.prog 58 3 3 = true := by kernel_rfl
theorem ee_tl22 : tySlice Try.prog 22 27 = true := by kernel_rfl
theorem ee_tl27 : tySlice Try.prog 27 5 = true := by kernel_rfl
theorem ee_tl33 : tySlice Try.prog 33 3 = true := by kernel_rfl
theorem ee_tl44 : tySlice Try.prog 44 48 = true := by kernel_rfl
theorem ee_tp23 : tyPtr Try.prog 23 66 = true := by kernel_rfl
theorem ee_ts22 : tyScalar Try.prog 22 = true := by kernel_rfl
theorem ee_ts27 : tyScalar Try.prog 27 = true := by kernel_rfl
theorem ee_ts3 : tyScalar Try.prog 3 = true := by kernel_rfl
theorem ee_ts4 : tyScalar Try.prog 4 = true := by kernel_rfl
theorem ee_tz27 : tySize Try.prog 27 1 = true := by kernel_rfl
theorem ee_tz3 : tySize Try.prog 3 1 = true := by kernel_rfl
theorem ee_tz48 : tySize Try.prog 48 5 = true := by kernel_rfl
theorem sameInts_spec {xs ys : List Int} {oa ob : Option Addr} {ca cb : Nat} {M : List HP} {F : List Fact} (ha : ArrF oa (ints xs) ∈ F) (hb : ArrF ob (ints ys) ∈ F) (hxl : xs.length ≤ 4611686018427387904) : Ctr Try.prog 44 [.slice oa xs.length ca, .slice ob ys.length cb] M F Unit (fun _ => .bool (decide (xs = ys))) (fun _ => M) (fun _ => F) := by
  refine Ctr.body Try.func44 rfl rfl ?_
  refine TR.seq ?_
  refine TR.region ?_
  refine RL.assign rfl rfl rfl ?_
  refine RL.nil ?_
  refine NX.seq ?_
  refine TR.seq ?_
  refine TR.seq ?_
  refine TR.region ?_
  refine RL.move rfl rfl rfl ?_
  refine RL.lenSlice rfl ee_tl33 rfl rfl ?_
  refine RL.move rfl rfl rfl ?_
  refine RL.lenSlice rfl ee_tl33 rfl rfl ?_
  refine RL.bin rfl rfl rfl BinV.neq rfl ?_
  refine RL.nil ?_
  refine NX.seq ?_
  refine TR.cond rfl (fun h1 => ?_) (fun h1 => ?_)
  · skip
    have hlen : ¬ xs.length = ys.length := by have := of_decide_eq_true h1; omega
    refine TR.seq ?_
    refine TR.region ?_
    refine RL.assign rfl rfl rfl ?_
    refine RL.nil ?_
    refine NX.seq ?_
    refine TR.ret ?_
    refine NX.retThen ?_
    refine NX.ret1 () rfl rfl (congrArg Value.bool (Eq.symm (decide_eq_false (fun e => hlen (congrArg _ e))))) (fun w hw => hw)
  · skip
    have hlen : xs.length = ys.length := by have := of_decide_eq_false h1; omega
    refine TR.skip ?_
    refine NX.seq ?_
    refine TR.seq ?_
    refine TR.seq ?_
    refine TR.region ?_
    refine RL.assign rfl rfl rfl ?_
    refine RL.nil ?_
    refine NX.seq ?_
    refine TR.block ?_
    refine TR.loopP (ι := Nat) (fun k => k ≤ xs.length ∧ xs.take k = ys.take k) (fun k => [(0, .slice oa xs.length ca), (1, .slice ob ys.length cb), (5, I k)]) (fun _ => M) (fun _ => F) (fun k => xs.length - k) 0 ⟨Nat.zero_le _, rfl⟩ ⟨rfl, rfl, rfl, trivial⟩ (fun w hw => hw) (fun k hk => ?_)
    refine TR.seq ?_
    refine TR.seq ?_
    refine TR.region ?_
    refine RL.move rfl rfl rfl ?_
    refine RL.move rfl rfl rfl ?_
    refine RL.lenSlice rfl ee_tl33 rfl rfl ?_
    refine RL.bin rfl rfl rfl BinV.lss rfl ?_
    refine RL.nil ?_
    refine NX.seq ?_
    refine TR.cond rfl (fun h2 => ?_) (fun h2 => ?_)
    · skip
      have hk1 : k < xs.length := by simpa using h2
      have hk2 : k < ys.length := by omega
      refine TR.openP (open_arr ha (ints_ne (by omega))) (fun x hx => ?_)
      refine TR.openP (open_arr (.tail _ hb) (ints_ne (by omega))) (fun y hy => ?_)
      subst hx hy
      refine TR.skip ?_
      refine NX.seq ?_
      refine TR.seq ?_
      refine TR.block ?_
      refine TR.seq ?_
      refine TR.sub (E' := [(0, _), (1, _), (5, _), (11, _), (12, _), (13, _), (14, _)]) ⟨rfl, rfl, rfl, rfl, rfl, rfl, rfl, trivial⟩ ?_
      refine TR.draw mixed ?_
      apply AR.more [(0, _), (1, _), (2, _), (3, _), (4, _), (5, _), (6, _), (7, _), (8, _)]
      refine AR.last [0, 1, 2, 3, 4, 5, 6, 7, 8] [0, 1, 2, 3, 4, 5, 6, 7, 8] ⟨QOne.yes rfl rfl rfl (PV.move rfl), QOne.yes rfl rfl rfl (PV.move rfl), QOne.yes rfl rfl rfl (PV.indexAddr ee_tl33 ee_tz3 rfl rfl (by omega) (by omega)), QOne.yes rfl rfl rfl (PV.loadF rfl (fun w K hF => run_loadCell1 (j := (k : Int).toNat * 1) (v := I xs[k]) (hF _ (.tail _ (.head _))) ee_ts3 (by simp [hk1]))), QOne.yes rfl rfl rfl (PV.move rfl), QOne.yes rfl rfl rfl (PV.move rfl), QOne.yes rfl rfl rfl (PV.indexAddr ee_tl33 ee_tz3 rfl rfl (by omega) (by omega)), QOne.yes rfl rfl rfl (PV.loadF rfl (fun w K hF => run_loadCell1 (j := (k : Int).toNat * 1) (v := I ys[k]) (hF _ (.head _)) ee_ts3 (by simp [hk2]))), QOne.yes rfl rfl rfl (PV.bin rfl rfl BinV.neq), trivial⟩ rfl rfl rfl ?_
      refine NX.sub (E' := [(0, _), (1, _), (5, _), (11, _), (12, _), (13, _), (14, _), (17, _), (18, _), (19, _), (20, _), (21, _), (22, _), (23, _), (24, _), (25, _)]) ⟨rfl, rfl, rfl, rfl, rfl, rfl, rfl, rfl, rfl, rfl, rfl, rfl, rfl, rfl, rfl, rfl, trivial⟩ ?_
      refine NX.seq ?_
      refine TR.cond rfl (fun h3 => ?_) (fun h3 => ?_)
      · skip
        refine TR.seq ?_
        refine TR.region ?_
        refine RL.assign rfl rfl rfl ?_
        refine RL.nil ?_
        refine NX.seq ?_
        refine TR.ret ?_
        refine NX.retBlock ?_
        refine NX.retThen ?_
        refine NX.retThen ?_
        refine NX.retBlock ?_
        refine NX.retThen ?_
        refine NX.ret1 () rfl rfl (congrArg Value.bool (Eq.symm (decide_eq_false (take_succ_ne hk1 hk2 (by simpa using h3))))) (fun w hw => ?_)
        exact hw.facts (fun φ h => .tail _ (.tail _ (h)))
      · skip
        refine TR.skip ?_
        refine NX.off ?_
        refine NX.seq ?_
        refine TR.region ?_
        refine RL.move rfl rfl rfl ?_
        refine RL.bin rfl rfl rfl (BinV.add _ rfl (by omega) (by omega)) rfl ?_
        refine RL.assign rfl rfl rfl ?_
        refine RL.nil ?_
        refine NX.roundP (k + 1) ⟨by omega, take_step hk.2 hk1 hk2 (by simpa using h3)⟩ (by omega) ⟨rfl, rfl, rfl, trivial⟩ (fun w hw => ?_)
        exact hw.facts (fun φ h => .tail _ (.tail _ (h)))
    · skip
      refine TR.exit ?_
      refine NX.exitThen ?_
      refine NX.exitThen ?_
      refine NX.exitHere ?_
      refine NX.seq ?_
      refine TR.seq ?_
      refine TR.region ?_
      refine RL.assign rfl rfl rfl ?_
      refine RL.nil ?_
      refine NX.seq ?_
      refine TR.ret ?_
      refine NX.ret1 () rfl rfl (congrArg Value.bool (Eq.symm (decide_eq_true (take_all_eq hk.2 (by simpa using h2) hlen)))) (fun w hw => hw)

set_option maxHeartbeats 1000000 in
theorem same_spec {b c : Nat} {s : Ds} {r : Rf} {M : List HP} {F : List Fact} (h : RelP s r.a) (hr : RfOk r) (hA : AllF s.fs ∈ F) (hB : AllB (rowsF r.a.B r.x) ∈ F) : Ctr Try.prog 25 [.pointer (some ⟨b, 0, none⟩), .pointer (some ⟨c, 0, none⟩)] (DkB 66 b (s) :: RfB 58 27 3 c (r) :: M) F Unit (fun _ => .bool true) (fun _ => DkB 66 b (s) :: RfB 58 27 3 c (r) :: M) (fun _ => F) := by
  refine Ctr.body Try.func25 rfl rfl ?_
  refine TR.seq ?_
  refine TR.region ?_
  refine RL.assign rfl rfl rfl ?_
  refine RL.nil ?_
  refine NX.seq ?_
  refine TR.seq ?_
  refine TR.seq ?_
  refine TR.sub (E' := [(0, _), (1, _), (4, _)]) ⟨rfl, rfl, rfl, trivial⟩ ?_
  refine TR.draw mixed ?_
  apply AR.more [(0, _), (2, _)]
  refine AR.eff [0, 2] 1 [0, 1, 2, 3, 4, 5, 6, 7, 8, 9, 10, 11, 12, 13, 14, 15, 16, 17, 18, 19, 20, 21] ⟨QOne.yes rfl rfl rfl (PV.move rfl), QOne.yes rfl rfl rfl (PV.move rfl), trivial⟩ rfl rfl rfl rfl rfl rfl rfl (EV.call rfl Try.call20 (p_used h)) (fun _ => ?_)
  refine AR.done [0] rfl ?_
  refine AR.eff [2] 3 [0, 1, 2, 3, 4, 5, 6, 7, 8, 9, 10, 11, 12, 13, 14, 15, 16, 17, 18, 19, 20, 21] ⟨QOne.yes rfl rfl rfl (PV.move rfl), trivial⟩ rfl rfl rfl rfl rfl rfl rfl (EV.call rfl Try.call43 (Ctr.pick 2 [1, 0] rfl (r_used hr))) (fun _ => ?_)
  refine AR.done [2] rfl ?_
  apply AR.more [(4, .bool false), (5, .bool false), (6, _), (8, _), (9, _), (10, _), (11, _)]
  refine AR.eff [4, 5, 6, 8, 9, 10, 11] 7 [0, 1, 2, 3, 4, 5, 6, 7, 8, 9, 10, 11, 12, 13, 14, 15, 16, 17, 18, 19, 20, 21] ⟨QOne.yes rfl rfl rfl (PV.bin rfl rfl (BinV.to (d := false) BinV.neq (decide_eq_false (fun e => e rfl)))), QOne.yes rfl rfl rfl (PV.move rfl), QOne.yes rfl rfl rfl (PV.move rfl), QOne.yes rfl rfl rfl (PV.move rfl), QOne.yes rfl rfl rfl (PV.nilCheck rfl), QOne.yes rfl rfl rfl (PV.fieldAddr ee_tf58_3 rfl), QOne.yes rfl rfl rfl (PV.loadS rfl (rf_cell (j := 3) (v := .bool r.a.off) (i := 0) rfl ee_ts4 rfl)), trivial⟩ rfl rfl rfl rfl rfl rfl rfl (EV.call rfl Try.call28 (Ctr.pick 2 [1, 0] rfl (p_on h))) (fun _ => ?_)
  refine AR.done [6, 5, 4] rfl ?_
  apply AR.more [(12, .bool false), (13, .bool false), (14, .bool false), (15, _), (17, _)]
  refine AR.eff [8, 9, 10, 11, 12, 13, 14, 15, 17] 16 [0, 1, 2, 3, 4, 5, 6, 7, 8, 9, 10, 11, 12, 13, 14, 15, 16, 17, 18, 19, 20, 21] ⟨QOne.yes rfl rfl rfl (PV.move rfl), QOne.yes rfl rfl rfl (PV.nilCheck rfl), QOne.yes rfl rfl rfl (PV.fieldAddr ee_tf58_3 rfl), QOne.yes rfl rfl rfl (PV.loadS rfl (rf_cell (j := 3) (v := .bool r.a.off) (i := 1) rfl ee_ts4 rfl)), QOne.yes rfl rfl rfl (PV.bin rfl rfl (BinV.to (d := false) (BinV.eqlB ee_tb4) (decide_eq_false (by cases r.a.off <;> simp)))), QOne.yes rfl rfl rfl (PV.pickF rfl rfl), QOne.yes rfl rfl rfl (PV.move rfl), QOne.yes rfl rfl rfl (PV.move rfl), QOne.yes rfl rfl rfl (PV.move rfl), trivial⟩ rfl rfl rfl rfl rfl rfl rfl (EV.call rfl Try.call37 (p_files h)) (fun z1 => ?_)
  refine AR.done [15, 14, 13, 12, 11, 10, 9, 8] rfl ?_
  refine AR.eff [17] 18 [0, 1, 2, 3, 4, 5, 6, 7, 8, 9, 10, 11, 12, 13, 14, 15, 16, 17, 18, 19, 20, 21] ⟨QOne.yes rfl rfl rfl (PV.move rfl), trivial⟩ rfl rfl rfl rfl rfl rfl rfl (EV.call rfl Try.call45 (Ctr.pick 2 [1, 0] rfl (r_files))) (fun z2 => ?_)
  refine AR.done [17] rfl ?_
  refine AR.eff [] 19 [0, 1, 2, 3, 4, 5, 6, 7, 8, 9, 10, 11, 12, 13, 14, 15, 16, 17, 18, 19, 20, 21] trivial rfl rfl rfl rfl rfl rfl rfl (EV.call rfl Try.call44 (Ctr.boolT (decide_eq_true rfl) (sameInts_spec (xs := natI (filesB r.a.B)) (ys := natI (filesB r.a.B)) (.tail _ (.head _)) (.head _) (by rw [natI_len]; have := filesB_len r.a.B; omega)))) (fun _ => ?_)
  refine AR.more [(20, .bool false), (21, .bool false)] ?_
  refine AR.last [20, 21] [0, 1, 2, 3, 4, 5, 6, 7, 8, 9, 10, 11, 12, 13, 14, 15, 16, 17, 18, 19, 20, 21] ⟨QOne.yes rfl rfl rfl (PV.not (b := true) rfl), QOne.yes rfl rfl rfl (PV.pickF rfl rfl), trivial⟩ rfl rfl rfl ?_
  refine NX.sub (E' := [(0, _), (1, _), (4, _), (29, _)]) ⟨rfl, rfl, rfl, rfl, trivial⟩ ?_
  refine NX.seq ?_
  refine TR.condF rfl ?_
  refine TR.skip ?_
  refine NX.seq ?_
  refine TR.seq ?_
  refine TR.seq ?_
  refine TR.openP (rf_at (i := 0) rfl) (fun g hg => ?_)
  refine TR.region ?_
  refine RL.assign rfl rfl rfl ?_
  refine RL.nil ?_
  refine NX.seq ?_
  refine TR.block ?_
  refine TR.loopP (ι := Nat) (fun i => i ≤ 4 ∧ True) (fun i => [(0, .pointer (some ⟨b, 0, none⟩)), (1, .pointer (some ⟨c, 0, none⟩)), (5, I (i : Nat))]) (fun i => DkB 66 b (s) :: RfB 58 27 3 c (r) :: M) (fun i => F) (fun i => 4 - i) 0 ⟨Nat.zero_le _, trivial⟩ ⟨rfl, rfl, rfl, trivial⟩ (fun w hw => (hw.to 2 [1, 0] 2 [] rfl)) (fun i hi => ?_)
  refine TR.seq ?_
  refine TR.seq ?_
  refine TR.region ?_
  refine RL.move rfl rfl rfl ?_
  refine RL.bin rfl rfl rfl BinV.lss rfl ?_
  refine RL.nil ?_
  refine NX.seq ?_
  refine TR.cond rfl (fun h1 => ?_) (fun h1 => ?_)
  · skip
    have hi4 : i < 4 := by have := of_decide_eq_true h1; omega
    have hi64 : i < 64 := by omega
    have hrl : (r.a.B i).length ≤ 4611686018427387904 := by have := used_one (B := r.a.B) hi64; have := hr.us; have := hr.rm; omega
    refine TR.weak (fun w hw => hw.allB_get hB (rowsF_mem hi64)) ?_
    refine TR.skip ?_
    refine NX.seq ?_
    refine TR.seq ?_
    refine TR.block ?_
    refine TR.seq ?_
    refine TR.region ?_
    refine RL.move rfl rfl rfl ?_
    refine RL.move rfl rfl rfl ?_
    refine RL.call rfl rfl Try.call16 rfl (p_read (n := i) h (.tail _ hA) hi64) (fun rd => ?_)
    refine RL.move rfl rfl rfl ?_
    refine RL.extract rfl rfl rfl rfl ?_
    refine RL.extract rfl rfl rfl rfl ?_
    refine RL.assign rfl rfl rfl ?_
    refine RL.assign rfl rfl rfl ?_
    refine RL.nil ?_
    refine NX.seq ?_
    refine TR.seq ?_
    refine TR.seq ?_
    refine TR.region ?_
    rcases Bool.eq_false_or_eq_true r.a.off with hoff | hoff
    · skip
      refine RL.move rfl rfl rfl ?_
      refine RL.nilCheck rfl rfl rfl ?_
      refine RL.fieldAddr rfl ee_tf58_3 rfl rfl ?_
      refine RL.loadS rfl rfl (rf_cell (j := 3) (v := .bool true) (i := 1) rfl ee_ts4 (by show some (Value.bool r.a.off) = _; rw [hoff])) rfl ?_
      refine RL.move rfl rfl rfl ?_
      refine RL.move rfl rfl rfl ?_
      refine RL.bin rfl rfl rfl (BinV.to (d := false) BinV.neq (decide_eq_false (fun e => e (by rw [if_pos hoff])))) rfl ?_
      refine RL.move rfl rfl rfl ?_
      refine RL.move rfl rfl rfl ?_
      refine RL.lenSlice rfl ee_tl27 rfl rfl ?_
      refine RL.bin rfl rfl rfl (BinV.to (d := false) BinV.neq (decide_eq_false (fun e => e (by rw [if_pos hoff]; rfl)))) rfl ?_
      refine RL.pickF rfl rfl rfl rfl ?_
      refine RL.pickT rfl rfl rfl rfl ?_
      refine RL.nil ?_
      refine NX.seq ?_
      refine TR.condF rfl ?_
      refine TR.skip ?_
      refine NX.seq ?_
      refine TR.seq ?_
      refine TR.region ?_
      refine RL.move rfl rfl rfl ?_
      refine RL.nilCheck rfl rfl rfl ?_
      refine RL.fieldAddr rfl ee_tf58_3 rfl rfl ?_
      refine RL.loadS rfl rfl (rf_cell (j := 3) (v := .bool true) (i := 1) rfl ee_ts4 (by show some (Value.bool r.a.off) = _; rw [hoff])) rfl ?_
      refine RL.not rfl rfl rfl ?_
      refine RL.move rfl rfl rfl ?_
      refine RL.skip rfl rfl rfl ?_
      refine RL.skip rfl rfl rfl ?_
      refine RL.skip rfl rfl rfl ?_
      refine RL.skip rfl rfl rfl ?_
      refine RL.skip rfl rfl rfl ?_
      refine RL.skip rfl rfl rfl ?_
      refine RL.skip rfl rfl rfl ?_
      refine RL.skip rfl rfl rfl ?_
      refine RL.skip rfl rfl rfl ?_
      refine RL.skip rfl rfl rfl ?_
      refine RL.skip rfl rfl rfl ?_
      refine RL.skip rfl rfl rfl ?_
      refine RL.skip rfl rfl rfl ?_
      refine RL.skip rfl rfl rfl ?_
      refine RL.pickF rfl rfl rfl rfl ?_
      refine RL.nil ?_
      refine NX.seq ?_
      refine TR.condF rfl ?_
      refine TR.skip ?_
      refine NX.off ?_
      refine NX.seq ?_
      refine TR.region ?_
      refine RL.move rfl rfl rfl ?_
      refine RL.bin rfl rfl rfl (BinV.add ((i + 1 : Nat) : Int) (by omega) (by omega) (by omega)) rfl ?_
      refine RL.assign rfl rfl rfl ?_
      refine RL.nil ?_
      refine NX.roundP (i + 1) ⟨by omega, trivial⟩ (by omega) ⟨rfl, rfl, rfl, trivial⟩ (fun w hw => (hw.to 2 [0, 1] 2 [] rfl))
    · skip
      refine RL.move rfl rfl rfl ?_
      refine RL.nilCheck rfl rfl rfl ?_
      refine RL.fieldAddr rfl ee_tf58_3 rfl rfl ?_
      refine RL.loadS rfl rfl (rf_cell (j := 3) (v := .bool false) (i := 1) rfl ee_ts4 (by show some (Value.bool r.a.off) = _; rw [hoff])) rfl ?_
      refine RL.move rfl rfl rfl ?_
      refine RL.skip rfl rfl rfl ?_
      refine RL.skip rfl rfl rfl ?_
      refine RL.skip rfl rfl rfl ?_
      refine RL.skip rfl rfl rfl ?_
      refine RL.skip rfl rfl rfl ?_
      refine RL.skip rfl rfl rfl ?_
      refine RL.skip rfl rfl rfl ?_
      refine RL.pickF rfl rfl rfl rfl ?_
      refine RL.nil ?_
      refine NX.seq ?_
      refine TR.condF rfl ?_
      refine TR.skip ?_
      refine NX.seq ?_
      refine TR.seq ?_
      refine TR.region ?_
      refine RL.move rfl rfl rfl ?_
      refine RL.nilCheck rfl rfl rfl ?_
      refine RL.fieldAddr rfl ee_tf58_3 rfl rfl ?_
      refine RL.loadS rfl rfl (rf_cell (j := 3) (v := .bool false) (i := 1) rfl ee_ts4 (by show some (Value.bool r.a.off) = _; rw [hoff])) rfl ?_
      refine RL.not rfl rfl rfl ?_
      refine RL.move rfl rfl rfl ?_
      refine RL.move rfl rfl rfl ?_
      refine RL.bin rfl rfl rfl (BinV.to (d := false) BinV.neq (decide_eq_false (fun e => e (by rw [hoff]; rfl)))) rfl ?_
      refine RL.move rfl rfl rfl ?_
      refine RL.move rfl rfl rfl ?_
      refine RL.move rfl rfl rfl ?_
      refine RL.nilCheck rfl rfl rfl ?_
      refine RL.fieldAddr rfl ee_tf58_1 rfl rfl ?_
      refine RL.loadS rfl rfl (rf_cell (j := 1) (v := .slice r.ba 64 64) (i := 1) rfl ee_ts22 rfl) rfl ?_
      refine RL.move rfl rfl rfl ?_
      refine RL.indexAddr rfl ee_tl22 ee_tz27 (congrArg (fun a => some (Value.slice a _ _)) hg) rfl (by omega) (by omega) rfl ?_
      refine RL.loadS rfl rfl (rf_row (n := i) (i := 1) rfl hg ee_ts27 rfl hi64) rfl ?_
      refine RL.call rfl rfl Try.call17 rfl (Ctr.boolT (decide_eq_true (show (if r.a.off = true then [] else r.a.B i) = r.a.B i by rw [hoff]; rfl)) (sameB_spec (xs := (if r.a.off = true then [] else r.a.B i)) (ys := r.a.B i) (.head _) (.tail _ (.head _)) (by rw [hoff]; exact hrl))) (fun _ => ?_)
      refine RL.not rfl rfl rfl ?_
      refine RL.pickF rfl rfl rfl rfl ?_
      refine RL.pickT rfl rfl rfl rfl ?_
      refine RL.nil ?_
      refine NX.seq ?_
      refine TR.condF rfl ?_
      refine TR.skip ?_
      refine NX.off ?_
      refine NX.seq ?_
      refine TR.region ?_
      refine RL.move rfl rfl rfl ?_
      refine RL.bin rfl rfl rfl (BinV.add ((i + 1 : Nat) : Int) (by omega) (by omega) (by omega)) rfl ?_
      refine RL.assign rfl rfl rfl ?_
      refine RL.nil ?_
      refine NX.roundP (i + 1) ⟨by omega, trivial⟩ (by omega) ⟨rfl, rfl, rfl, trivial⟩ (fun w hw => (hw.to 2 [0, 1] 2 [] rfl))
  · skip
    skip
    refine TR.exit ?_
    refine NX.exitThen ?_
    refine NX.exitThen ?_
    refine NX.exitHere ?_
    refine NX.seq ?_
    refine TR.seq ?_
    refine TR.region ?_
    refine RL.assign rfl rfl rfl ?_
    refine RL.nil ?_
    refine NX.seq ?_
    refine TR.ret ?_
    exact NX.ret1 () rfl rfl rfl (fun w hw => (hw.to 2 [0, 1] 0 [] rfl))

structure MdX where
  i : Nat
  s : Ds
  r : Rf

set_option maxHeartbeats 1000000 in
theorem made_spec {n : Int} {l : List Int} {oa : Option Addr} {ca : Nat} {M : List HP} {F : List Fact} (hn : I64 n) (hl : ArrF oa (ints l) ∈ F) (hkl : IntsOk l) : Ctr Try.prog 26 [I n, .slice oa l.length ca] M F {z : (Nat × Nat) × Ds × Rf // RelP z.2.1 z.2.2.a ∧ RfOk z.2.2} (fun z => .tuple #[.pointer (some ⟨z.1.1.1, 0, none⟩), .pointer (some ⟨z.1.1.2, 0, none⟩)]) (fun z => DkB 66 z.1.1.1 (z.1.2.1) :: RfB 58 27 3 z.1.1.2 (z.1.2.2) :: M) (fun z => AllB (rowsF z.1.2.2.a.B z.1.2.2.x) :: AllF z.1.2.1.fs :: F) := by
  refine Ctr.body Try.func26 rfl rfl ?_
  refine TR.seq ?_
  refine TR.region ?_
  refine RL.assign rfl rfl rfl ?_
  refine RL.assign rfl rfl rfl ?_
  refine RL.nil ?_
  refine NX.seq ?_
  refine TR.seq ?_
  refine TR.region ?_
  refine RL.move rfl rfl rfl ?_
  refine RL.call rfl rfl Try.call11 rfl (around_spec (by decide) hn.1 hn.2) (fun r0 => ?_)
  obtain ⟨r0v, r0h⟩ := r0
  obtain ⟨q, rfl⟩ : ∃ q : Nat, r0v = q := ⟨r0v.toNat, by omega⟩
  dsimp only
  refine RL.bin rfl rfl rfl (BinV.add ((12 + q : Nat) : Int) (by omega) (by omega) (by omega)) rfl ?_
  refine RL.assign rfl rfl rfl ?_
  refine RL.nil ?_
  refine NX.seq ?_
  refine TR.seq ?_
  refine TR.region ?_
  refine RL.move rfl rfl rfl ?_
  refine RL.call rfl rfl Try.call10 rfl (new_d (k := 12 + q) (by omega)) (fun z0 => ?_)
  refine RL.move rfl rfl rfl ?_
  refine RL.extract rfl rfl rfl rfl ?_
  refine RL.extract rfl rfl rfl rfl ?_
  refine RL.assign rfl rfl rfl ?_
  refine RL.assign rfl rfl rfl ?_
  refine RL.nil ?_
  refine NX.seq ?_
  refine TR.seq ?_
  refine TR.seq ?_
  refine TR.region ?_
  refine RL.move rfl rfl rfl ?_
  refine RL.bin rfl rfl rfl (BinV.eqlPtrNil ee_tp23) rfl ?_
  refine RL.move rfl rfl rfl ?_
  refine RL.move rfl rfl rfl ?_
  refine RL.bin rfl rfl rfl (BinV.to (d := false) BinV.neq (decide_eq_false (by simp))) rfl ?_
  refine RL.pickF rfl rfl rfl rfl ?_
  refine RL.nil ?_
  refine NX.seq ?_
  refine TR.condF rfl ?_
  refine TR.skip ?_
  refine NX.seq ?_
  refine TR.seq ?_
  refine TR.region ?_
  refine RL.move rfl rfl rfl ?_
  refine RL.call rfl rfl Try.call21 rfl (r_new (k := 12 + q)) (fun z1 => ?_)
  refine RL.assign rfl rfl rfl ?_
  refine RL.nil ?_
  refine NX.seq ?_
  refine TR.seq ?_
  refine TR.region ?_
  refine RL.move rfl rfl rfl ?_
  refine RL.call rfl rfl Try.call22 rfl (ops_spec (.tail _ (.tail _ hl)) hkl) (fun op => ?_)
  refine RL.assign rfl rfl rfl ?_
  refine RL.nil ?_
  refine NX.seq ?_
  refine TR.seq ?_
  refine TR.seq ?_
  refine TR.region ?_
  refine RL.assign rfl rfl rfl ?_
  refine RL.nil ?_
  refine NX.seq ?_
  refine TR.block ?_
  refine TR.loopP (ι := MdX) (fun x => x.i ≤ op.1.1.length ∧ RelP x.s x.r.a ∧ RfOk x.r) (fun x => [(7, .pointer (some ⟨z0.1, 0, none⟩)), (9, .pointer (some ⟨z1.1, 0, none⟩)), (10, .slice op.1.2.1 op.1.1.length op.1.2.2), (11, I (x.i : Nat))]) (fun x => DkB 66 z0.1 (x.s) :: RfB 58 27 3 z1.1 (x.r) :: OwnSl 48 5 op.1.2.1 op.1.1.length op.1.2.2 (opsV op.1.1) :: M) (fun x => AllF x.s.fs :: AllB (rowsF x.r.a.B x.r.x) :: AllO op.1.1 :: F) (fun x => op.1.1.length - x.i) ⟨0, (⟨z0.2, [], 12 + q, false, false, 0⟩ : Ds), (rf0 (12 + q) z1.2.1 z1.2.2)⟩ ⟨Nat.zero_le _, RelP.new (by omega), RfOk.new (by omega)⟩ ⟨rfl, rfl, rfl, rfl, trivial⟩ (fun w hw => (hw.to 3 [2, 1, 0] 3 [2, 1, 0] rfl)) (fun x hx => ?_)
  refine TR.seq ?_
  refine TR.seq ?_
  refine TR.region ?_
  refine RL.move rfl rfl rfl ?_
  refine RL.move rfl rfl rfl ?_
  refine RL.lenSlice rfl ee_tl44 rfl rfl ?_
  refine RL.bin rfl rfl rfl BinV.lss rfl ?_
  refine RL.nil ?_
  refine NX.seq ?_
  refine TR.cond rfl (fun h1 => ?_) (fun h1 => ?_)
  · skip
    have hol : x.i < op.1.1.length := by have := of_decide_eq_true h1; omega
    have hoo := op.2.2 _ (List.getElem_mem hol)
    have hol16 := op.2.1
    refine TR.openP (fun w hw => own_at (i := 2) rfl (opsV_ne hol) hw) (fun g hg => ?_)
    refine TR.weak (fun w hw => hw.allO_get (.tail _ (.tail _ (.head _))) (List.getElem_mem hol)) ?_
    refine TR.skip ?_
    refine NX.seq ?_
    refine TR.seq ?_
    refine TR.block ?_
    refine TR.seq ?_
    refine TR.region ?_
    refine RL.move rfl rfl rfl ?_
    refine RL.move rfl rfl rfl ?_
    refine RL.move rfl rfl rfl ?_
    refine RL.indexAddr rfl ee_tl44 ee_tz48 (congrArg (fun a => some (Value.slice a _ _)) hg) rfl (by omega) (by omega) rfl ?_
    refine RL.loadS rfl rfl (own_agg (i := 2) (vs := op.1.1[x.i].c) rfl hg ee_ta48 (fun j v hv => ops_at rfl hol j v hv)) rfl ?_
    refine RL.call rfl rfl Try.call23 rfl (do_spec hx.2.1 (.tail _ (.tail _ (.head _))) hoo (.head _) (.tail _ (.head _))) (fun q1 => ?_)
    refine RL.nil ?_
    refine NX.seq ?_
    refine TR.region ?_
    refine RL.move rfl rfl rfl ?_
    refine RL.move rfl rfl rfl ?_
    refine RL.move rfl rfl rfl ?_
    refine RL.indexAddr rfl ee_tl44 ee_tz48 (congrArg (fun a => some (Value.slice a _ _)) hg) rfl (by omega) (by omega) rfl ?_
    refine RL.loadS rfl rfl (own_agg (i := 2) (vs := op.1.1[x.i].c) rfl hg ee_ta48 (fun j v hv => ops_at rfl hol j v hv)) rfl ?_
    refine RL.call rfl rfl Try.call24 rfl (Ctr.pick 3 [1, 0, 2] rfl (rdo_spec hx.2.2 (.tail _ (.tail _ (.tail _ (.tail _ (.head _))))) hoo (.tail _ (.head _)) (.tail _ (.tail _ (.head _))))) (fun q2 => ?_)
    refine RL.nil ?_
    refine NX.off ?_
    refine NX.seq ?_
    refine TR.region ?_
    refine RL.move rfl rfl rfl ?_
    refine RL.bin rfl rfl rfl (BinV.add ((x.i + 1 : Nat) : Int) (by omega) (by omega) (by omega)) rfl ?_
    refine RL.assign rfl rfl rfl ?_
    refine RL.nil ?_
    refine NX.roundP ⟨x.i + 1, q1.1, q2.1⟩ ⟨by show x.i + 1 ≤ _; omega, by show RelP q1.1 q2.1.a; rw [q2.2.2]; exact q1.2, q2.2.1⟩ (by show op.1.1.length - (x.i + 1) < _; omega) ⟨rfl, rfl, rfl, rfl, trivial⟩ (fun w hw => (hw.to 3 [1, 0, 2] 7 [1, 0, 6] rfl))
  · skip
    refine TR.exit ?_
    refine NX.exitThen ?_
    refine NX.exitThen ?_
    refine NX.exitHere ?_
    refine NX.seq ?_
    refine TR.seq ?_
    refine TR.region ?_
    refine RL.move rfl rfl rfl ?_
    refine RL.move rfl rfl rfl ?_
    refine RL.assign rfl rfl rfl ?_
    refine RL.assign rfl rfl rfl ?_
    refine RL.nil ?_
    refine NX.seq ?_
    refine TR.ret ?_
    exact NX.ret2 (⟨((z0.1, z1.1), x.s, x.r), hx.2.1, hx.2.2⟩ : {z : (Nat × Nat) × Ds × Rf // RelP z.2.1 z.2.2.a ∧ RfOk z.2.2}) rfl rfl rfl rfl (fun w hw => (hw.to 3 [0, 1] 3 [1, 0] rfl))

set_option maxHeartbeats 1000000 in
theorem law_runs {n : Int} {l : List Int} {oa : Option Addr} {ca : Nat} {M : List HP} {F : List Fact} (hn : I64 n) (hl : ArrF oa (ints l) ∈ F) (hkl : IntsOk l) : Ctr Try.prog 5 [I n, .slice oa l.length ca] M F Unit (fun _ => .bool true) (fun _ => M) (fun _ => F) := by
  refine Ctr.body Try.func5 rfl rfl ?_
  refine TR.seq ?_
  refine TR.region ?_
  refine RL.assign rfl rfl rfl ?_
  refine RL.nil ?_
  refine NX.seq ?_
  refine TR.seq ?_
  refine TR.region ?_
  refine RL.move rfl rfl rfl ?_
  refine RL.call rfl rfl Try.call11 rfl (around_spec (by decide) hn.1 hn.2) (fun r0 => ?_)
  obtain ⟨r0v, r0h⟩ := r0
  obtain ⟨q, rfl⟩ : ∃ q : Nat, r0v = q := ⟨r0v.toNat, by omega⟩
  dsimp only
  refine RL.bin rfl rfl rfl (BinV.add ((12 + q : Nat) : Int) (by omega) (by omega) (by omega)) rfl ?_
  refine RL.assign rfl rfl rfl ?_
  refine RL.nil ?_
  refine NX.seq ?_
  refine TR.seq ?_
  refine TR.region ?_
  refine RL.move rfl rfl rfl ?_
  refine RL.call rfl rfl Try.call10 rfl (new_d (k := 12 + q) (by omega)) (fun z0 => ?_)
  refine RL.move rfl rfl rfl ?_
  refine RL.extract rfl rfl rfl rfl ?_
  refine RL.extract rfl rfl rfl rfl ?_
  refine RL.assign rfl rfl rfl ?_
  refine RL.assign rfl rfl rfl ?_
  refine RL.nil ?_
  refine NX.seq ?_
  refine TR.seq ?_
  refine TR.seq ?_
  refine TR.region ?_
  refine RL.move rfl rfl rfl ?_
  refine RL.bin rfl rfl rfl (BinV.eqlPtrNil ee_tp23) rfl ?_
  refine RL.move rfl rfl rfl ?_
  refine RL.move rfl rfl rfl ?_
  refine RL.bin rfl rfl rfl (BinV.to (d := false) BinV.neq (decide_eq_false (by simp))) rfl ?_
  refine RL.pickF rfl rfl rfl rfl ?_
  refine RL.nil ?_
  refine NX.seq ?_
  refine TR.condF rfl ?_
  refine TR.skip ?_
  refine NX.seq ?_
  refine TR.seq ?_
  refine TR.region ?_
  refine RL.move rfl rfl rfl ?_
  refine RL.call rfl rfl Try.call21 rfl (r_new (k := 12 + q)) (fun z1 => ?_)
  refine RL.assign rfl rfl rfl ?_
  refine RL.nil ?_
  refine NX.seq ?_
  refine TR.seq ?_
  refine TR.region ?_
  refine RL.move rfl rfl rfl ?_
  refine RL.call rfl rfl Try.call22 rfl (ops_spec (.tail _ (.tail _ hl)) hkl) (fun op => ?_)
  refine RL.assign rfl rfl rfl ?_
  refine RL.nil ?_
  refine NX.seq ?_
  refine TR.seq ?_
  refine TR.seq ?_
  refine TR.region ?_
  refine RL.assign rfl rfl rfl ?_
  refine RL.nil ?_
  refine NX.seq ?_
  refine TR.block ?_
  refine TR.loopP (ι := MdX) (fun x => x.i ≤ op.1.1.length ∧ RelP x.s x.r.a ∧ RfOk x.r) (fun x => [(6, .pointer (some ⟨z0.1, 0, none⟩)), (8, .pointer (some ⟨z1.1, 0, none⟩)), (9, .slice op.1.2.1 op.1.1.length op.1.2.2), (10, I (x.i : Nat))]) (fun x => DkB 66 z0.1 (x.s) :: RfB 58 27 3 z1.1 (x.r) :: OwnSl 48 5 op.1.2.1 op.1.1.length op.1.2.2 (opsV op.1.1) :: M) (fun x => AllF x.s.fs :: AllB (rowsF x.r.a.B x.r.x) :: AllO op.1.1 :: F) (fun x => op.1.1.length - x.i) ⟨0, (⟨z0.2, [], 12 + q, false, false, 0⟩ : Ds), (rf0 (12 + q) z1.2.1 z1.2.2)⟩ ⟨Nat.zero_le _, RelP.new (by omega), RfOk.new (by omega)⟩ ⟨rfl, rfl, rfl, rfl, trivial⟩ (fun w hw => (hw.to 3 [2, 1, 0] 3 [2, 1, 0] rfl)) (fun x hx => ?_)
  refine TR.seq ?_
  refine TR.seq ?_
  refine TR.region ?_
  refine RL.move rfl rfl rfl ?_
  refine RL.move rfl rfl rfl ?_
  refine RL.lenSlice rfl ee_tl44 rfl rfl ?_
  refine RL.bin rfl rfl rfl BinV.lss rfl ?_
  refine RL.nil ?_
  refine NX.seq ?_
  refine TR.cond rfl (fun h1 => ?_) (fun h1 => ?_)
  · skip
    have hol : x.i < op.1.1.length := by have := of_decide_eq_true h1; omega
    have hoo := op.2.2 _ (List.getElem_mem hol)
    have hol16 := op.2.1
    refine TR.openP (fun w hw => own_at (i := 2) rfl (opsV_ne hol) hw) (fun g hg => ?_)
    refine TR.weak (fun w hw => hw.allO_get (.tail _ (.tail _ (.head _))) (List.getElem_mem hol)) ?_
    refine TR.skip ?_
    refine NX.seq ?_
    refine TR.seq ?_
    refine TR.block ?_
    refine TR.seq ?_
    refine TR.sub (E' := [(6, _), (8, _), (9, _), (10, _), (29, _), (30, _), (31, _), (32, _)]) ⟨rfl, rfl, rfl, rfl, rfl, rfl, rfl, rfl, trivial⟩ ?_
    refine TR.draw mixed ?_
    apply AR.more [(0, _), (1, _), (2, _), (3, _), (4, _), (6, _), (7, _), (8, _), (9, _), (10, _)]
    refine AR.eff [0, 1, 2, 3, 4, 6, 7, 8, 9, 10] 5 [0, 1, 2, 3, 4, 5, 6, 7, 8, 9, 10, 11, 12, 13, 14, 15, 16, 17, 18] ⟨QOne.yes rfl rfl rfl (PV.move rfl), QOne.yes rfl rfl rfl (PV.move rfl), QOne.yes rfl rfl rfl (PV.move rfl), QOne.yes rfl rfl rfl (PV.indexAddr ee_tl44 ee_tz48 (congrArg (fun a => some (Value.slice a _ _)) hg) rfl (by omega) (by omega)), QOne.yes rfl rfl rfl (PV.loadS rfl (own_agg (i := 2) (vs := op.1.1[x.i].c) rfl hg ee_ta48 (fun j v hv => ops_at rfl hol j v hv))), QOne.yes rfl rfl rfl (PV.move rfl), QOne.yes rfl rfl rfl (PV.move rfl), QOne.yes rfl rfl rfl (PV.move rfl), QOne.yes rfl rfl rfl (PV.indexAddr ee_tl44 ee_tz48 (congrArg (fun a => some (Value.slice a _ _)) hg) rfl (by omega) (by omega)), QOne.yes rfl rfl rfl (PV.loadS rfl (own_agg (i := 2) (vs := op.1.1[x.i].c) rfl hg ee_ta48 (fun j v hv => ops_at rfl hol j v hv))), trivial⟩ rfl rfl rfl rfl rfl rfl rfl (EV.call rfl Try.call23 (do_spec hx.2.1 (.tail _ (.tail _ (.head _))) hoo (.head _) (.tail _ (.head _)))) (fun q1 => ?_)
    refine AR.done [0, 4, 3, 1, 2] rfl ?_
    refine AR.eff [6, 7, 8, 9, 10] 11 [0, 1, 2, 3, 4, 5, 6, 7, 8, 9, 10, 11, 12, 13, 14, 15, 16, 17, 18] ⟨QOne.yes rfl rfl rfl (PV.move rfl), QOne.yes rfl rfl rfl (PV.move rfl), QOne.yes rfl rfl rfl (PV.move rfl), QOne.yes rfl rfl rfl (PV.indexAddr ee_tl44 ee_tz48 (congrArg (fun a => some (Value.slice a _ _)) hg) rfl (by omega) (by omega)), QOne.yes rfl rfl rfl (PV.loadS rfl (own_agg (i := 2) (vs := op.1.1[x.i].c) rfl hg ee_ta48 (fun j v hv => ops_at rfl hol j v hv))), trivial⟩ rfl rfl rfl rfl rfl rfl rfl (EV.call rfl Try.call24 (Ctr.pick 3 [1, 0, 2] rfl (rdo_spec hx.2.2 (.tail _ (.tail _ (.tail _ (.tail _ (.head _))))) hoo (.tail _ (.head _)) (.tail _ (.tail _ (.head _)))))) (fun q2 => ?_)
    refine AR.done [6, 10, 9, 7, 8] rfl ?_
    apply AR.more [(12, .bool false), (13, .bool false), (14, _), (15, _)]
    refine AR.eff [12, 13, 14, 15] 16 [0, 1, 2, 3, 4, 5, 6, 7, 8, 9, 10, 11, 12, 13, 14, 15, 16, 17, 18] ⟨QOne.yes rfl rfl rfl (PV.bin rfl rfl (BinV.to (d := false) BinV.neq (decide_eq_false (fun e => e rfl)))), QOne.yes rfl rfl rfl (PV.move rfl), QOne.yes rfl rfl rfl (PV.move rfl), QOne.yes rfl rfl rfl (PV.move rfl), trivial⟩ rfl rfl rfl rfl rfl rfl rfl (EV.call rfl Try.call25 (Ctr.pick 3 [1, 0, 2] rfl (same_spec (s := q1.1) (r := q2.1) (by rw [q2.2.2]; exact q1.2) q2.2.1 (.tail _ (.head _)) (.head _)))) (fun _ => ?_)
    refine AR.done [14, 15, 13, 12] rfl ?_
    refine AR.more [(17, .bool false), (18, .bool false)] ?_
    refine AR.last [17, 18] [0, 1, 2, 3, 4, 5, 6, 7, 8, 9, 10, 11, 12, 13, 14, 15, 16, 17, 18] ⟨QOne.yes rfl rfl rfl (PV.not (b := true) rfl), QOne.yes rfl rfl rfl (PV.pickF rfl rfl), trivial⟩ rfl rfl rfl ?_
    refine NX.sub (E' := [(6, _), (8, _), (9, _), (10, _), (29, _), (30, _), (31, _), (32, _), (35, _), (36, _), (37, _), (38, _), (39, _), (40, _), (41, _), (42, _), (43, _), (44, _), (45, _), (46, _), (47, _), (48, _), (49, _), (50, _), (51, _), (52, _), (53, _)]) ⟨rfl, rfl, rfl, rfl, rfl, rfl, rfl, rfl, rfl, rfl, rfl, rfl, rfl, rfl, rfl, rfl, rfl, rfl, rfl, rfl, rfl, rfl, rfl, rfl, rfl, rfl, rfl, trivial⟩ ?_
    refine NX.seq ?_
    refine TR.condF rfl ?_
    refine TR.skip ?_
    refine NX.off ?_
    refine NX.seq ?_
    refine TR.region ?_
    refine RL.move rfl rfl rfl ?_
    refine RL.bin rfl rfl rfl (BinV.add ((x.i + 1 : Nat) : Int) (by omega) (by omega) (by omega)) rfl ?_
    refine RL.assign rfl rfl rfl ?_
    refine RL.nil ?_
    refine NX.roundP ⟨x.i + 1, q1.1, q2.1⟩ ⟨by show x.i + 1 ≤ _; omega, by show RelP q1.1 q2.1.a; rw [q2.2.2]; exact q1.2, q2.2.1⟩ (by show op.1.1.length - (x.i + 1) < _; omega) ⟨rfl, rfl, rfl, rfl, trivial⟩ (fun w hw => (hw.to 3 [0, 1, 2] 7 [1, 0, 6] rfl))
  · skip
    refine TR.exit ?_
    refine NX.exitThen ?_
    refine NX.exitThen ?_
    refine NX.exitHere ?_
    refine NX.seq ?_
    refine TR.seq ?_
    refine TR.region ?_
    refine RL.call rfl rfl Try.call18 rfl (lives_spec) (fun _ => ?_)
    refine RL.assign rfl rfl rfl ?_
    refine RL.nil ?_
    refine NX.seq ?_
    refine TR.ret ?_
    exact NX.ret1 () rfl rfl rfl (fun w hw => (hw.to 3 [] 3 [] rfl))

end Go.Proofs.Ytdnjoffkanjjhaa

namespace Go.Proofs.Ytdnjoffkanjjhaa
open Go.GL
set_option linter.unusedVariables false
theorem ef_ta48 : tyAgg Try.prog 48 5 = true := by kernel_rfl
theorem ef_tl44 : tySlice Try.prog 44 48 = true := by kernel_rfl
theorem ef_tp23 : tyPtr Try.prog 23 66 = true := by kernel_rfl
theorem ef_tp42 : tyPtr Try.prog 42 58 = true := by kernel_rfl
theorem ef_tz48 : tySize Try.prog 48 5 = true := by kernel_rfl
theorem _root_.Go.GL.RelP.copy {s : Ds} {a : Am} (h : RelP s a) (m : Nat) : RelP { s with m := m } a := ⟨h.ok, ⟨h.lft.1, h.lft.2, h.lft.3⟩, ⟨h.rm.used, h.rm.room⟩, h.room, h.off, h.plan, h.b, h.d⟩

structure CyX where
  i : Nat
  s : Ds
  a : Am
structure CzX where
  i : Nat
  s : Ds
  r : Rf

set_option maxHeartbeats 2000000 in
theorem law_copies {n : Int} {l k : List Int} {oa ob : Option Addr} {ca cb : Nat} {M : List HP} {F : List Fact} (hn : I64 n) (hl : ArrF oa (ints l) ∈ F) (hkl : IntsOk l) (hk : ArrF ob (ints k) ∈ F) (hkk : IntsOk k) : Ctr Try.prog 8 [I n, .slice oa l.length ca, .slice ob k.length cb] M F Unit (fun _ => .bool true) (fun _ => M) (fun _ => F) := by
  refine Ctr.body Try.func8 rfl rfl ?_
  refine TR.seq ?_
  refine TR.region ?_
  refine RL.assign rfl rfl rfl ?_
  refine RL.nil ?_
  refine NX.seq ?_
  refine TR.seq ?_
  refine TR.region ?_
  refine RL.move rfl rfl rfl ?_
  refine RL.move rfl rfl rfl ?_
  refine RL.call rfl rfl Try.call26 rfl (made_spec hn hl hkl) (fun z => ?_)
  refine RL.move rfl rfl rfl ?_
  refine RL.extract rfl rfl rfl rfl ?_
  refine RL.extract rfl rfl rfl rfl ?_
  refine RL.assign rfl rfl rfl ?_
  refine RL.assign rfl rfl rfl ?_
  refine RL.nil ?_
  refine NX.seq ?_
  refine TR.seq ?_
  refine TR.seq ?_
  refine TR.region ?_
  refine RL.move rfl rfl rfl ?_
  refine RL.bin rfl rfl rfl (BinV.eqlPtrNil ef_tp23) rfl ?_
  refine RL.move rfl rfl rfl ?_
  refine RL.move rfl rfl rfl ?_
  refine RL.bin rfl rfl rfl (BinV.eqlPtrNil ef_tp42) rfl ?_
  refine RL.pickF rfl rfl rfl rfl ?_
  refine RL.nil ?_
  refine NX.seq ?_
  refine TR.condF rfl ?_
  refine TR.skip ?_
  refine NX.seq ?_
  refine TR.seq ?_
  refine TR.region ?_
  refine RL.move rfl rfl rfl ?_
  refine RL.call rfl rfl Try.call29 rfl (copy_d (s := z.1.2.1)) (fun y => ?_)
  refine RL.weak (fun w hw => hw.derive (ψ := AllF ({ z.1.2.1 with m := y.2 } : Ds).fs) (fun K hf => hf (AllF z.1.2.1.fs) (.tail _ (.head _)))) ?_
  refine RL.assign rfl rfl rfl ?_
  refine RL.nil ?_
  refine NX.seq ?_
  refine TR.seq ?_
  refine TR.seq ?_
  refine TR.region ?_
  refine RL.move rfl rfl rfl ?_
  refine RL.bin rfl rfl rfl (BinV.eqlPtrNil ef_tp23) rfl ?_
  refine RL.move rfl rfl rfl ?_
  refine RL.move rfl rfl rfl ?_
  refine RL.move rfl rfl rfl ?_
  refine RL.call rfl rfl Try.call25 rfl (Ctr.pick 3 [0, 2, 1] rfl (same_spec (s := ({ z.1.2.1 with m := y.2 } : Ds)) (r := z.1.2.2) (z.2.1.copy _) z.2.2 (.head _) (.tail _ (.head _)))) (fun _ => ?_)
  refine RL.not rfl rfl rfl ?_
  refine RL.pickF rfl rfl rfl rfl ?_
  refine RL.nil ?_
  refine NX.seq ?_
  refine TR.condF rfl ?_
  refine TR.skip ?_
  refine NX.seq ?_
  refine TR.seq ?_
  refine TR.region ?_
  refine RL.move rfl rfl rfl ?_
  refine RL.call rfl rfl Try.call22 rfl (ops_spec (.tail _ (.tail _ (.tail _ hk))) hkk) (fun op => ?_)
  refine RL.assign rfl rfl rfl ?_
  refine RL.nil ?_
  refine NX.seq ?_
  refine TR.seq ?_
  refine TR.seq ?_
  refine TR.region ?_
  refine RL.assign rfl rfl rfl ?_
  refine RL.nil ?_
  refine NX.seq ?_
  refine TR.block ?_
  refine TR.loopP (ι := CyX) (fun x => x.i ≤ op.1.1.length ∧ RelP x.s x.a ∧ x.a = (op.1.1.take x.i).foldl (fun a o => (opA a o).2) z.1.2.2.a) (fun x => [(7, .pointer (some ⟨z.1.1.1, 0, none⟩)), (8, .pointer (some ⟨z.1.1.2, 0, none⟩)), (9, .pointer (some ⟨y.1, 0, none⟩)), (10, .slice op.1.2.1 op.1.1.length op.1.2.2), (11, I (x.i : Nat))]) (fun x => DkB 66 y.1 (x.s) :: DkB 66 z.1.1.1 (z.1.2.1) :: RfB 58 27 3 z.1.1.2 (z.1.2.2) :: OwnSl 48 5 op.1.2.1 op.1.1.length op.1.2.2 (opsV op.1.1) :: M) (fun x => AllF x.s.fs :: AllF z.1.2.1.fs :: AllB (rowsF z.1.2.2.a.B z.1.2.2.x) :: AllO op.1.1 :: F) (fun x => op.1.1.length - x.i) ⟨0, ({ z.1.2.1 with m := y.2 } : Ds), z.1.2.2.a⟩ ⟨Nat.zero_le _, z.2.1.copy _, rfl⟩ ⟨rfl, rfl, rfl, rfl, rfl, trivial⟩ (fun w hw => (hw.to 4 [1, 3, 2, 0] 4 [1, 3, 2, 0] rfl)) (fun x hx => ?_)
  refine TR.seq ?_
  refine TR.seq ?_
  refine TR.region ?_
  refine RL.move rfl rfl rfl ?_
  refine RL.move rfl rfl rfl ?_
  refine RL.lenSlice rfl ef_tl44 rfl rfl ?_
  refine RL.bin rfl rfl rfl BinV.lss rfl ?_
  refine RL.nil ?_
  refine NX.seq ?_
  refine TR.cond rfl (fun h1 => ?_) (fun h1 => ?_)
  · skip
    have hol : x.i < op.1.1.length := by have := of_decide_eq_true h1; omega
    have hoo := op.2.2 _ (List.getElem_mem hol)
    have hol16 := op.2.1
    refine TR.openP (fun w hw => own_at (i := 3) rfl (opsV_ne hol) hw) (fun g hg => ?_)
    refine TR.weak (fun w hw => hw.allO_get (.tail _ (.tail _ (.tail _ (.head _)))) (List.getElem_mem hol)) ?_
    refine TR.skip ?_
    refine NX.seq ?_
    refine TR.seq ?_
    refine TR.block ?_
    refine TR.region ?_
    refine RL.move rfl rfl rfl ?_
    refine RL.move rfl rfl rfl ?_
    refine RL.move rfl rfl rfl ?_
    refine RL.indexAddr rfl ef_tl44 ef_tz48 (congrArg (fun a => some (Value.slice a _ _)) hg) rfl (by omega) (by omega) rfl ?_
    refine RL.loadS rfl rfl ((own_agg (i := 3) (vs := op.1.1[x.i].c) rfl hg ef_ta48 (fun j v hv => ops_at rfl hol j v hv))) rfl ?_
    refine RL.call rfl rfl Try.call23 rfl (do_spec hx.2.1 (.tail _ (.tail _ (.head _))) hoo (.head _) (.tail _ (.head _))) (fun q1 => ?_)
    refine RL.nil ?_
    refine NX.off ?_
    refine NX.seq ?_
    refine TR.region ?_
    refine RL.move rfl rfl rfl ?_
    refine RL.bin rfl rfl rfl (BinV.add ((x.i + 1 : Nat) : Int) (by omega) (by omega) (by omega)) rfl ?_
    refine RL.assign rfl rfl rfl ?_
    refine RL.nil ?_
    refine NX.roundP ⟨x.i + 1, q1.1, (opA x.a op.1.1[x.i]).2⟩ ⟨by show x.i + 1 ≤ _; omega, q1.2, by show (opA x.a _).2 = (op.1.1.take (x.i + 1)).foldl (fun a o => (opA a o).2) z.1.2.2.a; rw [List.take_succ_eq_append_getElem hol, List.foldl_append, ← hx.2.2]; rfl⟩ (by show op.1.1.length - (x.i + 1) < _; omega) ⟨rfl, rfl, rfl, rfl, rfl, trivial⟩ (fun w hw => (hw.to 4 [0, 1, 2, 3] 7 [0, 4, 5, 6] rfl))
  · skip
    have hend : x.i = op.1.1.length := by have := of_decide_eq_false h1; have := hx.1; omega
    refine TR.exit ?_
    refine NX.exitThen ?_
    refine NX.exitThen ?_
    refine NX.exitHere ?_
    refine NX.seq ?_
    refine TR.seq ?_
    refine TR.seq ?_
    refine TR.region ?_
    refine RL.move rfl rfl rfl ?_
    refine RL.move rfl rfl rfl ?_
    refine RL.call rfl rfl Try.call25 rfl (Ctr.pick 4 [1, 2, 0, 3] rfl (same_spec (s := z.1.2.1) (r := z.1.2.2) z.2.1 z.2.2 (.tail _ (.head _)) (.tail _ (.tail _ (.head _))))) (fun _ => ?_)
    refine RL.not rfl rfl rfl ?_
    refine RL.nil ?_
    refine NX.seq ?_
    refine TR.condF rfl ?_
    refine TR.skip ?_
    refine NX.seq ?_
    refine TR.seq ?_
    refine TR.region ?_
    refine RL.move rfl rfl rfl ?_
    refine RL.call rfl rfl Try.call29 rfl (copy_d (s := z.1.2.1)) (fun y2 => ?_)
    refine RL.weak (fun w hw => hw.derive (ψ := AllF ({ z.1.2.1 with m := y2.2 } : Ds).fs) (fun K hf => hf (AllF z.1.2.1.fs) (.tail _ (.head _)))) ?_
    refine RL.assign rfl rfl rfl ?_
    refine RL.nil ?_
    refine NX.seq ?_
    refine TR.seq ?_
    refine TR.seq ?_
    refine TR.region ?_
    refine RL.move rfl rfl rfl ?_
    refine RL.bin rfl rfl rfl (BinV.eqlPtrNil ef_tp23) rfl ?_
    refine RL.nil ?_
    refine NX.seq ?_
    refine TR.condF rfl ?_
    refine TR.skip ?_
    refine NX.seq ?_
    refine TR.seq ?_
    refine TR.seq ?_
    refine TR.region ?_
    refine RL.assign rfl rfl rfl ?_
    refine RL.nil ?_
    refine NX.seq ?_
    refine TR.block ?_
    refine TR.loopP (ι := CzX) (fun x2 => x2.i ≤ op.1.1.length ∧ RelP x2.s x2.r.a ∧ RfOk x2.r ∧ x2.r.a = (op.1.1.take x2.i).foldl (fun a o => (opA a o).2) z.1.2.2.a) (fun x2 => [(8, .pointer (some ⟨z.1.1.2, 0, none⟩)), (9, .pointer (some ⟨y.1, 0, none⟩)), (10, .slice op.1.2.1 op.1.1.length op.1.2.2), (12, .pointer (some ⟨y2.1, 0, none⟩)), (13, I (x2.i : Nat))]) (fun x2 => DkB 66 y2.1 (x2.s) :: RfB 58 27 3 z.1.1.2 (x2.r) :: DkB 66 y.1 (x.s) :: OwnSl 48 5 op.1.2.1 op.1.1.length op.1.2.2 (opsV op.1.1) :: M) (fun x2 => AllF x2.s.fs :: AllB (rowsF x2.r.a.B x2.r.x) :: AllF x.s.fs :: AllO op.1.1 :: F) (fun x2 => op.1.1.length - x2.i) ⟨0, ({ z.1.2.1 with m := y2.2 } : Ds), z.1.2.2⟩ ⟨Nat.zero_le _, z.2.1.copy _, z.2.2, rfl⟩ ⟨rfl, rfl, rfl, rfl, rfl, trivial⟩ (fun w hw => (hw.to 5 [0, 2, 3, 4] 5 [0, 3, 1, 4] rfl)) (fun x2 hx2 => ?_)
    refine TR.seq ?_
    refine TR.seq ?_
    refine TR.region ?_
    refine RL.move rfl rfl rfl ?_
    refine RL.move rfl rfl rfl ?_
    refine RL.lenSlice rfl ef_tl44 rfl rfl ?_
    refine RL.bin rfl rfl rfl BinV.lss rfl ?_
    refine RL.nil ?_
    refine NX.seq ?_
    refine TR.cond rfl (fun h2 => ?_) (fun h2 => ?_)
    · skip
      have hol : x2.i < op.1.1.length := by have := of_decide_eq_true h2; omega
      have hoo := op.2.2 _ (List.getElem_mem hol)
      have hol16 := op.2.1
      refine TR.openP (fun w hw => own_at (i := 3) rfl (opsV_ne hol) hw) (fun g hg => ?_)
      refine TR.weak (fun w hw => hw.allO_get (.tail _ (.tail _ (.tail _ (.head _)))) (List.getElem_mem hol)) ?_
      refine TR.skip ?_
      refine NX.seq ?_
      refine TR.seq ?_
      refine TR.block ?_
      refine TR.seq ?_
      refine TR.sub (E' := [(8, _), (9, _), (10, _), (12, _), (13, _), (58, _), (59, _), (60, _), (61, _)]) ⟨rfl, rfl, rfl, rfl, rfl, rfl, rfl, rfl, rfl, trivial⟩ ?_
      refine TR.draw mixed ?_
      apply AR.more [(0, _), (1, _), (2, _), (3, _), (4, _), (6, _), (7, _), (8, _), (9, _), (10, _)]
      refine AR.eff [0, 1, 2, 3, 4, 6, 7, 8, 9, 10] 5 [0, 1, 2, 3, 4, 5, 6, 7, 8, 9, 10, 11, 12] ⟨QOne.yes rfl rfl rfl (PV.move rfl), QOne.yes rfl rfl rfl (PV.move rfl), QOne.yes rfl rfl rfl (PV.move rfl), QOne.yes rfl rfl rfl (PV.indexAddr ef_tl44 ef_tz48 (congrArg (fun a => some (Value.slice a _ _)) hg) rfl (by omega) (by omega)), QOne.yes rfl rfl rfl (PV.loadS rfl ((own_agg (i := 3) (vs := op.1.1[x2.i].c) rfl hg ef_ta48 (fun j v hv => ops_at rfl hol j v hv)))), QOne.yes rfl rfl rfl (PV.move rfl), QOne.yes rfl rfl rfl (PV.move rfl), QOne.yes rfl rfl rfl (PV.move rfl), QOne.yes rfl rfl rfl (PV.indexAddr ef_tl44 ef_tz48 (congrArg (fun a => some (Value.slice a _ _)) hg) rfl (by omega) (by omega)), QOne.yes rfl rfl rfl (PV.loadS rfl ((own_agg (i := 3) (vs := op.1.1[x2.i].c) rfl hg ef_ta48 (fun j v hv => ops_at rfl hol j v hv)))), trivial⟩ rfl rfl rfl rfl rfl rfl rfl (EV.call rfl Try.call23 (do_spec hx2.2.1 (.tail _ (.tail _ (.head _))) hoo (.head _) (.tail _ (.head _)))) (fun q1 => ?_)
      refine AR.done [0, 4, 3, 1, 2] rfl ?_
      refine AR.eff [6, 7, 8, 9, 10] 11 [0, 1, 2, 3, 4, 5, 6, 7, 8, 9, 10, 11, 12] ⟨QOne.yes rfl rfl rfl (PV.move rfl), QOne.yes rfl rfl rfl (PV.move rfl), QOne.yes rfl rfl rfl (PV.move rfl), QOne.yes rfl rfl rfl (PV.indexAddr ef_tl44 ef_tz48 (congrArg (fun a => some (Value.slice a _ _)) hg) rfl (by omega) (by omega)), QOne.yes rfl rfl rfl (PV.loadS rfl ((own_agg (i := 3) (vs := op.1.1[x2.i].c) rfl hg ef_ta48 (fun j v hv => ops_at rfl hol j v hv)))), trivial⟩ rfl rfl rfl rfl rfl rfl rfl (EV.call rfl Try.call24 (Ctr.pick 4 [1, 0, 2, 3] rfl (rdo_spec hx2.2.2.1 (.tail _ (.tail _ (.tail _ (.tail _ (.head _))))) hoo (.tail _ (.head _)) (.tail _ (.tail _ (.head _)))))) (fun q2 => ?_)
      refine AR.done [6, 10, 9, 7, 8] rfl ?_
      refine AR.more [(12, .bool false)] ?_
      refine AR.last [12] [0, 1, 2, 3, 4, 5, 6, 7, 8, 9, 10, 11, 12] ⟨QOne.yes rfl rfl rfl (PV.bin rfl rfl (BinV.to (d := false) BinV.neq (decide_eq_false (fun e => e rfl)))), trivial⟩ rfl rfl rfl ?_
      refine NX.sub (E' := [(8, _), (9, _), (10, _), (12, _), (13, _), (58, _), (59, _), (60, _), (61, _), (64, _), (65, _), (66, _), (67, _), (68, _), (69, _), (70, _), (71, _), (72, _), (73, _), (74, _), (75, _), (76, _)]) ⟨rfl, rfl, rfl, rfl, rfl, rfl, rfl, rfl, rfl, rfl, rfl, rfl, rfl, rfl, rfl, rfl, rfl, rfl, rfl, rfl, rfl, rfl, trivial⟩ ?_
      refine NX.seq ?_
      refine TR.condF rfl ?_
      refine TR.skip ?_
      refine NX.off ?_
      refine NX.seq ?_
      refine TR.region ?_
      refine RL.move rfl rfl rfl ?_
      refine RL.bin rfl rfl rfl (BinV.add ((x2.i + 1 : Nat) : Int) (by omega) (by omega) (by omega)) rfl ?_
      refine RL.assign rfl rfl rfl ?_
      refine RL.nil ?_
      refine NX.roundP ⟨x2.i + 1, q1.1, q2.1⟩ ⟨by show x2.i + 1 ≤ _; omega, by show RelP q1.1 q2.1.a; rw [q2.2.2]; exact q1.2, q2.2.1, by show q2.1.a = (op.1.1.take (x2.i + 1)).foldl (fun a o => (opA a o).2) z.1.2.2.a; rw [List.take_succ_eq_append_getElem hol, List.foldl_append, ← hx2.2.2.2, q2.2.2]; rfl⟩ (by show op.1.1.length - (x2.i + 1) < _; omega) ⟨rfl, rfl, rfl, rfl, rfl, trivial⟩ (fun w hw => (hw.to 4 [1, 0, 2, 3] 8 [1, 0, 6, 7] rfl))
    · skip
      have hend2 : x2.i = op.1.1.length := by have := of_decide_eq_false h2; have := hx2.1; omega
      have hfin : RelP x.s x2.r.a := by
        rw [hx2.2.2.2, hend2, ← hend, ← hx.2.2]; exact hx.2.1
      refine TR.exit ?_
      refine NX.exitThen ?_
      refine NX.exitThen ?_
      refine NX.exitHere ?_
      refine NX.seq ?_
      refine TR.seq ?_
      refine TR.region ?_
      refine RL.move rfl rfl rfl ?_
      refine RL.move rfl rfl rfl ?_
      refine RL.call rfl rfl Try.call25 rfl (same_spec (s := x2.s) (r := x2.r) hx2.2.1 hx2.2.2.1 (.head _) (.tail _ (.head _))) (fun _ => ?_)
      refine RL.move rfl rfl rfl ?_
      refine RL.move rfl rfl rfl ?_
      refine RL.move rfl rfl rfl ?_
      refine RL.call rfl rfl Try.call25 rfl (Ctr.pick 4 [2, 1, 0, 3] rfl (same_spec (s := x.s) (r := x2.r) hfin hx2.2.2.1 (.tail _ (.tail _ (.head _))) (.tail _ (.head _)))) (fun _ => ?_)
      refine RL.pickT rfl rfl rfl rfl ?_
      refine RL.move rfl rfl rfl ?_
      refine RL.call rfl rfl Try.call18 rfl (lives_spec) (fun _ => ?_)
      refine RL.pickT rfl rfl rfl rfl ?_
      refine RL.assign rfl rfl rfl ?_
      refine RL.nil ?_
      refine NX.seq ?_
      refine TR.ret ?_
      exact NX.ret1 () rfl rfl rfl (fun w hw => (hw.to 4 [] 4 [] rfl))

end Go.Proofs.Ytdnjoffkanjjhaa

namespace Go.GL
set_option linter.unusedVariables false
structure SyA (a b : Am) : Prop where
  ok : (syncA (armA a (-1))).1 = 0
  on1 : (armA a (-1)).off = false
  e : b = (syncA (armA a (-1))).2
  off : b.off = false
  plan : b.plan = none
  B : b.B = a.B
  D : b.D = fun k => (a.B k).length
theorem SyA.of {a : Am} (h : a.off = false) : SyA a (syncA (armA a (-1))).2 := by
  have e1 : armA a (-1) = { a with plan := none } := by unfold armA; rw [if_neg (by rw [h]; simp)]; rfl
  have e2 : syncA { a with plan := none } = (0, { a with plan := none, D := fun k => (a.B k).length }) := by
    unfold syncA
    rw [if_neg (by show ¬ a.off = true; rw [h]; simp)]
    rfl
  refine ⟨?_, ?_, rfl, ?_, ?_, ?_, ?_⟩ <;> rw [e1] <;> first | (rw [e2]) | exact h
  exact h
theorem off_sync {a : Am} (h : a.off = true) : (armA a (-1)).off = true ∧ (syncA (armA a (-1))).1 = 22 := by
  have e1 : armA a (-1) = a := by unfold armA; rw [if_pos h]
  rw [e1]
  exact ⟨h, by unfold syncA; rw [if_pos h]⟩
structure GoA (a0 a : Am) : Prop where
  off : a.off = false
  plan : a.plan = none
  D : a.D = a0.D
  pre : ∀ n, ∃ y, a.B n = a0.B n ++ y
theorem GoA.refl {a : Am} (h1 : a.off = false) (h2 : a.plan = none) : GoA a a := ⟨h1, h2, rfl, fun n => ⟨[], by simp⟩⟩
theorem GoA.app {a0 a : Am} (h : GoA a0 a) (n : Int) (x : List UInt8) : GoA a0 (appA a n x).2 := by
  by_cases h1 : there n
  · by_cases h3 : a.room < usedA a.B + x.length
    · rw [appA_full h1 h.off h3]; exact h
    · obtain ⟨k, rfl⟩ : ∃ k : Nat, n = k := ⟨n.toNat, by have := h1.1; omega⟩
      rw [appA_go (by have := h1.2; omega) h.off h3]
      have hs : stepA { a with B := upd a.B k (a.B k ++ x) } = (true, { a with B := upd a.B k (a.B k ++ x) }) := by unfold stepA; simp only [h.plan]
      rw [hs]
      refine ⟨h.off, h.plan, h.D, fun m => ?_⟩
      obtain ⟨y, hy⟩ := h.pre m
      show ∃ z, upd a.B k (a.B k ++ x) m = _
      unfold upd
      by_cases e : m = k
      · subst e; rw [if_pos rfl]; exact ⟨y ++ x, by rw [hy, List.append_assoc]⟩
      · rw [if_neg e]; exact ⟨y, hy⟩
  · rw [appA_arg h1]; exact h
structure DurA (a b x : Am) (kk : List Int) (fl : Int) (n : Nat) : Prop where
  c : crashB b.B b.D kk fl n = a.B n
  le : (a.B n).length ≤ (crashB x.B x.D kk fl n).length
  tk : (crashB x.B x.D kk fl n).take (a.B n).length = a.B n
  up : (crashB x.B x.D kk fl n).length ≤ (x.B n).length
theorem SyA.dur {a b x : Am} (h : SyA a b) (g : GoA b x) (kk : List Int) (fl : Int) (n : Nat) : DurA a b x kk fl n := by
  have hD : x.D n = (a.B n).length := by rw [g.D, h.D]
  obtain ⟨y, hy⟩ := g.pre n
  rw [h.B] at hy
  have hf := crashB_firm (B := x.B) (D := x.D) kk fl n (by rw [hD, hy, List.length_append]; omega)
  rw [hD] at hf
  refine ⟨?_, hf.2, ?_, ?_⟩
  · rw [crashB_hard (fun k => by rw [h.D, h.B]), h.B]
  · rw [hf.1, hy, List.take_left]
  · rw [crashB_len]; exact cutB_len _ _ _ _
end Go.GL
