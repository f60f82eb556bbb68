/- Lemmas and walks for the proof of RunsJ: texts one behind the other. No condition. -/
import Derived.Test.YtdlpaojkkekdlaaGreatPrsd
namespace Go.GL
def HP.emp : HP := ⟨fun _ K => K = [], fun h _ => h, fun h b hb => by rw [h] at hb; cases hb⟩
def nthM : List HP → Nat → HP
  | [], _ => HP.emp
  | a :: _, 0 => a
  | _ :: l, n + 1 => nthM l n
def dropM : Nat → List HP → List HP
  | 0, l => l
  | _ + 1, [] => []
  | n + 1, _ :: l => dropM n l
/-- the parts at the places, then all from the k-th on -/
def pikM (M : List HP) (k : Nat) : List Nat → List HP
  | [] => dropM k M
  | i :: is => nthM M i :: pikM M k is
def nthF : List Fact → Nat → Fact
  | [], _ => ⟨fun _ _ => True, fun h _ => h⟩
  | a :: _, 0 => a
  | _ :: l, n + 1 => nthF l n
def dropF : Nat → List Fact → List Fact
  | 0, l => l
  | _ + 1, [] => []
  | n + 1, _ :: l => dropF n l
def pikF (F : List Fact) (k : Nat) : List Nat → List Fact
  | [] => dropF k F
  | i :: is => nthF F i :: pikF F k is
theorem dropM_eq : ∀ (M : List HP) (k : Nat), dropM k M = M.drop k
  | _, 0 => by simp [dropM]
  | [], _ + 1 => by simp [dropM]
  | _ :: l, k + 1 => by simp [dropM, dropM_eq l k]
theorem nthM_get : ∀ {M : List HP} {i : Nat} (h : i < M.length), nthM M i = M[i]
  | [], _, h => absurd h (by simp)
  | _ :: _, 0, _ => rfl
  | _ :: l, n + 1, h => by simp only [List.length_cons] at h; show nthM l n = _; rw [nthM_get (by omega)]; rfl
theorem nthM_big : ∀ {M : List HP} {i : Nat}, M.length ≤ i → nthM M i = HP.emp
  | [], _, _ => rfl
  | _ :: _, 0, h => absurd h (by simp)
  | _ :: l, n + 1, h => nthM_big (M := l) (by simp only [List.length_cons] at h; omega)
theorem nthF_mem (F : List Fact) (i : Nat) : nthF F i ∈ F ∨ ∀ w K, (nthF F i).p w K := by
  induction F generalizing i with
  | nil => exact .inr fun _ _ => trivial
  | cons a l ih =>
    cases i with
    | zero => exact .inl (.head _)
    | succ n => rcases ih n with h | h; exact .inl (.tail _ h); exact .inr h
theorem dropF_mem {φ : Fact} : ∀ {F : List Fact} {k : Nat}, φ ∈ dropF k F → φ ∈ F
  | _, 0, h => h
  | [], _ + 1, h => h
  | _ :: _, _ + 1, h => .tail _ (dropF_mem h)
theorem St.toF {w : World} {M : List HP} {F : List Fact} (k : Nat) (fs : List Nat) (h : St w M F) : St w M (pikF F k fs) := by
  obtain ⟨K, ho, hn, hf⟩ := h
  refine ⟨K, ho, hn, ?_⟩
  induction fs with
  | nil => exact fun φ hφ => hf φ (dropF_mem hφ)
  | cons i is ih =>
    intro φ hφ
    rcases List.mem_cons.1 hφ with e | e
    · subst e
      rcases nthF_mem F i with h | h
      · exact hf _ h
      · exact h w K
    · exact ih φ e
theorem St.emp {w : World} {M : List HP} {F : List Fact} (h : St w M F) : St w (HP.emp :: M) F := by
  obtain ⟨K, ho, hn, hf⟩ := h
  exact ⟨K, ⟨[], K, rfl, rfl, ho⟩, hn, hf⟩
theorem St.dropped {w : World} {F : List Fact} : ∀ {A B : List HP}, St w (A ++ B) F → St w B F
  | [], _, h => h
  | _ :: A, B, h => St.dropped (A := A) (B := B) (by simpa using h.tail)
/-- each place once, none beyond k -/
def okM (k : Nat) : List Nat → Bool
  | [] => true
  | i :: is => Nat.blt i k && !(is.any fun j => Nat.beq i j) && okM k is
theorem okM_is {k : Nat} : ∀ {is : List Nat}, okM k is = true → is.Nodup ∧ ∀ i, i ∈ is → i < k
  | [], _ => ⟨List.nodup_nil, fun _ h => absurd h (by simp)⟩
  | i :: is, h => by
    simp only [okM, Bool.and_eq_true] at h
    obtain ⟨h1, h2⟩ := okM_is h.2
    have h3 : i ∉ is := by
      intro hm
      have : is.any (fun j => Nat.beq i j) = true := List.any_eq_true.2 ⟨i, hm, Nat.beq_refl i⟩
      rw [this] at h
      exact absurd h.1.2 (by simp)
    refine ⟨List.nodup_cons.2 ⟨h3, h1⟩, fun j hj => ?_⟩
    rcases List.mem_cons.1 hj with e | e
    · subst e
      have := h.1.1
      simpa [Nat.blt_eq] using this
    · exact h2 j e
theorem range_map_get (M : List HP) (k : Nat) (hk : k ≤ M.length) : (List.range k).map (nthM M) = M.take k := by
  apply List.ext_getElem (by simp; omega)
  intro i h1 h2
  simp at h1
  simp [nthM_get (show i < M.length by omega)]
theorem pickM_eq (M : List HP) (k : Nat) : ∀ (is : List Nat), pikM M k is = is.map (nthM M) ++ M.drop k
  | [] => by simp [pikM, dropM_eq]
  | i :: is => by simp [pikM, pickM_eq M k is]
theorem nodup_subperm {is : List Nat} {k : Nat} (h1 : is.Nodup) (h2 : ∀ i, i ∈ is → i < k) : ∃ js, (is ++ js).Perm (List.range k) := by
  refine ⟨(List.range k).filter (fun j => decide (j ∉ is)), ?_⟩
  have hn : (is ++ (List.range k).filter (fun j => decide (j ∉ is))).Nodup := by
    refine List.nodup_append.2 ⟨h1, (List.nodup_range).sublist List.filter_sublist, ?_⟩
    intro a ha b hb e
    subst e
    have := (List.mem_filter.1 hb).2
    simp at this
    exact this ha
  refine (List.perm_ext_iff_of_nodup hn List.nodup_range).2 fun a => ?_
  constructor
  · intro h
    rcases List.mem_append.1 h with h | h
    · exact List.mem_range.2 (h2 a h)
    · exact (List.mem_filter.1 h).1
  · intro h
    by_cases ha : a ∈ is
    · exact List.mem_append.2 (.inl ha)
    · exact List.mem_append.2 (.inr (List.mem_filter.2 ⟨h, by simpa using ha⟩))
/-- beyond the end there is nothing -/
theorem St.pad {w : World} {M : List HP} {F : List Fact} (k : Nat) (h : St w M F) : St w ((List.range k).map (nthM M) ++ M.drop k) F := by
  by_cases hk : k ≤ M.length
  · rw [range_map_get M k hk, List.take_append_drop]; exact h
  · have e1 : (List.range k).map (nthM M) = M ++ List.replicate (k - M.length) HP.emp := by
      apply List.ext_getElem (by simp; omega)
      intro i h1 h2
      simp at h1
      by_cases hi : i < M.length
      · simp [List.getElem_append_left hi, nthM_get hi]
      · rw [List.getElem_append_right (by omega)]
        simp [nthM_big (M := M) (i := i) (by omega)]
    rw [e1, List.drop_eq_nil_of_le (by omega), List.append_nil]
    have : ∀ n, St w (List.replicate n HP.emp ++ M) F := by
      intro n
      induction n with
      | zero => simpa using h
      | succ n ih => simpa [List.replicate_succ] using ih.emp
    exact (this _).perm List.perm_append_comm
theorem St.toM {w : World} {M : List HP} {F : List Fact} (k : Nat) (is : List Nat) (ok : okM k is = true) (h : St w M F) : St w (pikM M k is) F := by
  obtain ⟨h1, h2⟩ := okM_is ok
  obtain ⟨js, hp⟩ := nodup_subperm h1 h2
  rw [pickM_eq]
  have h3 := h.pad k
  have h4 : ((List.range k).map (nthM M) ++ M.drop k).Perm (js.map (nthM M) ++ (is.map (nthM M) ++ M.drop k)) := by
    have := (hp.map (nthM M)).symm
    rw [List.map_append] at this
    refine (this.append_right _).trans ?_
    rw [← List.append_assoc]
    exact List.perm_append_comm.append_right _
  exact St.dropped (h3.perm h4)
/-- blocks and facts by their places; what is not named is let go -/
theorem St.to {w : World} {M : List HP} {F : List Fact} (k : Nat) (is : List Nat) (kf : Nat) (fs : List Nat) (ok : okM k is = true) (h : St w M F) : St w (pikM M k is) (pikF F kf fs) := (h.toM k is ok).toF kf fs
/-- all the k parts, each once: what a call takes stands ahead -/
theorem Ctr.pick {P : Program} {f : FuncId} {args : List Value} {M : List HP} {F : List Fact} {ι : Type} {val : ι → Value} {M' : ι → List HP} {F' : ι → List Fact} (k : Nat) (is : List Nat) (ok : okM k is = true)
    (h : Ctr P f args (pikM M k is) F ι val M' F') : Ctr P f args M F ι val M' F' := fun w hw => h w (hw.toM k is ok)
section
variable {P : Program} {r : Option Nat} {N : Nat} {ops : Array Oper} {rest : List Oper} {Q : Exit → Act → World → Prop} {E : Env} {ds : List Deferred} {M : List HP} {F : List Fact}
theorem RL.pick (k : Nat) (is : List Nat) (ok : okM k is = true) (h : RL P r N ops rest Q E ds (pikM M k is) F) : RL P r N ops rest Q E ds M F := RL.weak (fun _ hw => hw.toM k is ok) h
theorem TR.pick {c : Code} (k : Nat) (is : List Nat) (ok : okM k is = true) (h : TR P r N c Q E ds (pikM M k is) F) : TR P r N c Q E ds M F := TR.weak (fun _ hw => hw.toM k is ok) h
theorem RL.to (k : Nat) (is : List Nat) (kf : Nat) (fs : List Nat) (ok : okM k is = true) (h : RL P r N ops rest Q E ds (pikM M k is) (pikF F kf fs)) : RL P r N ops rest Q E ds M F := RL.weak (fun _ hw => hw.to k is kf fs ok) h
theorem TR.to {c : Code} (k : Nat) (is : List Nat) (kf : Nat) (fs : List Nat) (ok : okM k is = true) (h : TR P r N c Q E ds (pikM M k is) (pikF F kf fs)) : TR P r N c Q E ds M F := TR.weak (fun _ hw => hw.to k is kf fs ok) h
end
/-! ### Many parts as one -/
/-- all the parts of a list, as one part -/
def Al (L : List HP) : HP where
  p w K := Own w L K
  loc := Own.loc
  lt := Own.lt
theorem St.alOpen {w : World} {L M : List HP} {F : List Fact} (h : St w (Al L :: M) F) : St w (L ++ M) F := by
  obtain ⟨K, ⟨K1, K2, e, h1, h2⟩, hn, hf⟩ := h
  exact ⟨K, Own.append.2 ⟨K1, K2, e, h1, h2⟩, hn, hf⟩
theorem St.alClose {w : World} {L M : List HP} {F : List Fact} (h : St w (L ++ M) F) : St w (Al L :: M) F := by
  obtain ⟨K, ho, hn, hf⟩ := h
  obtain ⟨K1, K2, e, h1, h2⟩ := Own.append.1 ho
  exact ⟨K, ⟨K1, K2, e, h1, h2⟩, hn, hf⟩
theorem St.alSnoc {w : World} {L M : List HP} {r : HP} {F : List Fact} (h : St w (r :: Al L :: M) F) : St w (Al (L ++ [r]) :: M) F := by
  refine St.alClose ?_
  have h1 := St.alOpen (h.perm (.swap _ _ _))
  rw [List.append_assoc]
  exact h1
theorem St.alNil {w : World} {M : List HP} {F : List Fact} (h : St w M F) : St w (Al [] :: M) F := St.alClose h
theorem St.alCut {w : World} {L M : List HP} {F : List Fact} (i : Nat) (hi : i < L.length) (h : St w (Al L :: M) F) : St w (L[i] :: Al (L.take i) :: Al (L.drop (i + 1)) :: M) F := by
  have h1 := St.alOpen h
  have e : L ++ M = L.take i ++ (L[i] :: (L.drop (i + 1) ++ M)) := by
    have e2 : L = L.take i ++ (L[i] :: L.drop (i + 1)) := by rw [← List.drop_eq_getElem_cons hi, List.take_append_drop]
    exact (congrArg (· ++ M) e2).trans (by simp only [List.append_assoc, List.cons_append])
  rw [e] at h1
  have h2 : St w (L[i] :: (L.take i ++ (L.drop (i + 1) ++ M))) F := h1.perm List.perm_middle
  have h3 : St w (L.drop (i + 1) ++ (L[i] :: (L.take i ++ M))) F := h2.perm ((List.Perm.cons _ (perm_mid _ _ _)).trans List.perm_middle.symm)
  have h4 := St.alClose h3
  have h5 : St w (L.take i ++ (L[i] :: Al (L.drop (i + 1)) :: M)) F := h4.perm (by
    refine (List.Perm.swap _ _ _).trans ?_
    refine (List.Perm.cons _ (List.perm_middle.symm)).trans ?_
    exact List.perm_middle.symm)
  exact (St.alClose h5).perm (.swap _ _ _)
theorem St.alJoin {w : World} {L1 L2 M : List HP} {r : HP} {F : List Fact} (h : St w (r :: Al L1 :: Al L2 :: M) F) : St w (Al (L1 ++ r :: L2) :: M) F := by
  refine St.alClose ?_
  have h1 : St w (L1 ++ (r :: Al L2 :: M)) F := St.alOpen (h.perm (.swap _ _ _))
  have h2 : St w (Al L2 :: (L1 ++ (r :: M))) F := h1.perm ((List.Perm.append_left _ (.swap _ _ _)).trans List.perm_middle)
  have h3 : St w (L2 ++ (L1 ++ (r :: M))) F := St.alOpen h2
  rw [List.append_assoc]
  have h4 : St w (L1 ++ (L2 ++ (r :: M))) F := h3.perm (perm_mid _ _ _)
  exact h4.perm (List.Perm.append_left L1 List.perm_middle)
end Go.GL

namespace Go.GL
set_option linter.unusedVariables false
/-! ### What a disk shows -/
def vB (fs : Fs) (n : Nat) : List UInt8 := (fget fs n).b
def vD (fs : Fs) (n : Nat) : Nat := (fget fs n).dur
def filesB (B : Nat → List UInt8) : List Nat := (List.range 64).filter fun n => !(B n).isEmpty
def keepK (keep : List Int) (i room : Nat) : Nat := match keep[i]? with
  | some k => (max 0 (min k (room : Int))).toNat
  | none => 0
theorem keepK_le (keep : List Int) (i room : Nat) : keepK keep i room ≤ room := by
  unfold keepK; split <;> omega
/-- what a crash lets stand of file n, nothing inverted -/
def cutB (B : Nat → List UInt8) (D : Nat → Nat) (keep : List Int) (n : Nat) : List UInt8 := (B n).take (D n + keepK keep ((filesB B).idxOf n) ((B n).length - D n))
def looseB (B : Nat → List UInt8) (D : Nat → Nat) (keep : List Int) : List (Nat × Nat) := (filesB B).flatMap fun n => (List.range' (D n) ((cutB B D keep n).length - D n)).map fun j => (n, j)
def flipB (x : UInt8) (r : Nat) : UInt8 := UInt8.ofNat (x.toNat ^^^ 2 ^ (7 - r))
def turnB (b : List UInt8) (j r : Nat) : List UInt8 := b.set j (flipB (b.getD j 0) r)
def crashB (B : Nat → List UInt8) (D : Nat → Nat) (keep : List Int) (flip : Int) (n : Nat) : List UInt8 :=
  if flip < 0 then cutB B D keep n else
  match (looseB B D keep)[flip.toNat % (8 * (looseB B D keep).length) / 8]? with
  | some (m, j) => if n = m then turnB (cutB B D keep n) j (flip.toNat % (8 * (looseB B D keep).length) % 8) else cutB B D keep n
  | none => cutB B D keep n
theorem cutB_len (B : Nat → List UInt8) (D : Nat → Nat) (keep : List Int) (n : Nat) : (cutB B D keep n).length ≤ (B n).length := by
  unfold cutB; rw [List.length_take]; omega
theorem turnB_len (b : List UInt8) (j r : Nat) : (turnB b j r).length = b.length := by unfold turnB; rw [List.length_set]
theorem crashB_len (B : Nat → List UInt8) (D : Nat → Nat) (keep : List Int) (flip : Int) (n : Nat) : (crashB B D keep flip n).length = (cutB B D keep n).length := by
  unfold crashB
  split
  · rfl
  · split
    · split
      · rw [turnB_len]
      · rfl
    · rfl
theorem crashB_calm (B : Nat → List UInt8) (D : Nat → Nat) (keep : List Int) (flip : Int) (n : Nat) (h : flip < 0) : crashB B D keep flip n = cutB B D keep n := by unfold crashB; rw [if_pos h]
/-- what a crash leaves -/
structure CrashR (s : Ds) (keep : List Int) (flip : Int) (t : Ds) : Prop where
  m : t.m = s.m
  room : t.room = s.room
  off : t.off = false
  armed : t.armed = false
  left : t.left = s.left
  ok : OkF t.fs
  b : ∀ n, n < 64 → vB t.fs n = crashB (vB s.fs) (vD s.fs) keep flip n
  d : ∀ n, n < 64 → vD t.fs n = (vB t.fs n).length
/-! ### The rows that a crash makes -/
structure CrR where
  n : Nat
  b : List UInt8
  d : Nat
  oa : Option Addr
  c : Nat
def CrR.f (r : CrR) : Fl := ⟨r.b, r.d, r.oa, r.c⟩
def crOwn (e : Nat) (r : CrR) : HP := OwnSl e 1 r.oa r.b.length r.c (bytesV r.b)
def crPtr (r : CrR) (j : Nat) : Value := .pointer (r.oa.map fun a => a.add (j * 1))
def crLoose (rs : List CrR) : List (CrR × Nat) := rs.flatMap fun r => (List.range' r.d (r.b.length - r.d)).map fun j => (r, j)
def crPtrs (rs : List CrR) : List Value := (crLoose rs).map fun x => crPtr x.1 x.2
theorem crLoose_snoc (rs : List CrR) (r : CrR) : crLoose (rs ++ [r]) = crLoose rs ++ (List.range' r.d (r.b.length - r.d)).map fun j => (r, j) := by
  unfold crLoose; rw [List.flatMap_append]; simp
theorem crLoose_mem {rs : List CrR} {x : CrR × Nat} (h : x ∈ crLoose rs) : x.1 ∈ rs ∧ x.1.d ≤ x.2 ∧ x.2 < x.1.b.length := by
  obtain ⟨r, hr, hx⟩ := List.mem_flatMap.1 h
  obtain ⟨j, hj, rfl⟩ := List.mem_map.1 hx
  have := List.mem_range'_1.1 hj
  exact ⟨hr, this.1, by have := this.2; show j < r.b.length; omega⟩
/-- the files when the first i of them (in order) have been cut -/
structure CrSt (s : Ds) (keep : List Int) (i : Nat) (fs : Fs) (rs : List CrR) : Prop where
  ok : OkF fs
  len : rs.length = i
  n : rs.map CrR.n = (filesB (vB s.fs)).take i
  b : ∀ r, r ∈ rs → r.b = cutB (vB s.fs) (vD s.fs) keep r.n ∧ r.d = vD s.fs r.n ∧ r.d ≤ r.b.length ∧ r.b.length ≤ r.c
  done : ∀ r, r ∈ rs → fget fs r.n = (if r.b = [] then fl0 else r.f)
  rest : ∀ k : Nat, k ∉ rs.map CrR.n → fget fs k = fget s.fs k
end Go.GL
