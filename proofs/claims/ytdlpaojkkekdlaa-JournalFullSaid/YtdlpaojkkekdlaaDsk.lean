/- A disk in memory: files by their numbers. No condition; no program. -/
import Derived.Test.YtdlpaojkkekdlaaMpd
import Derived.Test.YtdlpaojkkekdlaaFrj
import Derived.Test.YtdlpaojkkekdlaaDfr
namespace Go.GL
set_option linter.unusedVariables false
structure Fl where
  b : List UInt8
  dur : Nat
  oa : Option Addr
  c : Nat
abbrev Fs := List (Int × Fl)
def flC (f : Fl) : List Value := [.slice f.oa f.b.length f.c, I f.dur]
def flV (f : Fl) : Value := .agg (flC f).toArray
def fl0 : Fl := ⟨[], 0, none, 0⟩
def fsV (fs : Fs) : KV := fs.map fun p => (p.1, flV p.2)
def AllF (fs : Fs) : Fact := ⟨fun w K => ∀ p, p ∈ fs → ArrAt w K p.2.oa (bytesV p.2.b), fun h e p hp => (h p hp).mono e⟩
def fget : Fs → Int → Fl
  | [], _ => fl0
  | p :: l, k => if p.1 = k then p.2 else fget l k
def fset : Fs → Int → Fl → Fs
  | [], k, v => [(k, v)]
  | p :: l, k, v => if p.1 = k then (k, v) :: l else p :: fset l k v
def fdel : Fs → Int → Fs
  | [], _ => []
  | p :: l, k => if p.1 = k then l else p :: fdel l k
theorem fsV_get : ∀ (fs : Fs) (k : Int), (kvGet (fsV fs) k).getD (flV fl0) = flV (fget fs k)
  | [], _ => rfl
  | p :: l, k => by
    show (if p.1 = k then some (flV p.2) else kvGet (fsV l) k).getD _ = flV (if p.1 = k then p.2 else fget l k)
    split
    · rfl
    · exact fsV_get l k
theorem fsV_set : ∀ (fs : Fs) (k : Int) (f : Fl), kvSet (fsV fs) k (flV f) = fsV (fset fs k f)
  | [], _, _ => rfl
  | p :: l, k, f => by
    show (if p.1 = k then (k, flV f) :: fsV l else (p.1, flV p.2) :: kvSet (fsV l) k (flV f)) = fsV (if p.1 = k then (k, f) :: l else p :: fset l k f)
    split
    · rfl
    · rw [fsV_set l k f]; rfl
theorem fsV_del : ∀ (fs : Fs) (k : Int), kvDel (fsV fs) k = fsV (fdel fs k)
  | [], _ => rfl
  | p :: l, k => by
    show (if p.1 = k then fsV l else (p.1, flV p.2) :: kvDel (fsV l) k) = fsV (if p.1 = k then l else p :: fdel l k)
    split
    · rfl
    · rw [fsV_del l k]; rfl
theorem fsV_keys (fs : Fs) : (fsV fs).map Prod.fst = fs.map Prod.fst := by
  unfold fsV; rw [List.map_map]; rfl
theorem fsV_mem {fs : Fs} {p : Int × Value} (h : p ∈ fsV fs) : ∃ f, (p.1, f) ∈ fs ∧ p.2 = flV f := by
  obtain ⟨q, hq, rfl⟩ := List.mem_map.1 h
  exact ⟨q.2, hq, rfl⟩
theorem fget_mem : ∀ {fs : Fs} {k : Int} {f : Fl}, (fs.map Prod.fst).Nodup → (k, f) ∈ fs → fget fs k = f
  | [], _, _, _, h => absurd h (by simp)
  | p :: l, k, f, hn, h => by
    rw [List.map_cons, List.nodup_cons] at hn
    rcases List.mem_cons.1 h with e | h
    · subst e; rw [fget, if_pos rfl]
    · have hne : p.1 ≠ k := fun e => hn.1 (e ▸ List.mem_map_of_mem (f := Prod.fst) h)
      rw [fget, if_neg hne]; exact fget_mem hn.2 h
theorem fget_in {fs : Fs} {k : Int} : fget fs k = fl0 ∨ (k, fget fs k) ∈ fs := by
  induction fs with
  | nil => exact .inl rfl
  | cons p l ih =>
    rw [fget]
    split
    · rename_i e; subst e; exact .inr (.head _)
    · rcases ih with h | h
      · exact .inl h
      · exact .inr (.tail _ h)
theorem fset_mem {fs : Fs} {k : Int} {f : Fl} {p : Int × Fl} (h : p ∈ fset fs k f) : p = (k, f) ∨ p ∈ fs := by
  induction fs with
  | nil => simp [fset] at h; exact .inl h
  | cons q l ih =>
    rw [fset] at h
    split at h
    · rcases List.mem_cons.1 h with e | h
      · exact .inl e
      · exact .inr (.tail _ h)
    · rcases List.mem_cons.1 h with e | h
      · exact .inr (e ▸ .head _)
      · rcases ih h with h | h
        · exact .inl h
        · exact .inr (.tail _ h)
theorem fdel_mem {fs : Fs} {k : Int} {p : Int × Fl} (h : p ∈ fdel fs k) : p ∈ fs := by
  induction fs with
  | nil => exact h
  | cons q l ih =>
    rw [fdel] at h
    split at h
    · exact .tail _ h
    · rcases List.mem_cons.1 h with e | h
      · exact e ▸ .head _
      · exact .tail _ (ih h)
def used (fs : Fs) : Nat := (fs.map fun p => p.2.b.length).sum
/-- a sum over the keys that are left -/
def sumK (g : Int → Nat) (l : List Int) : Nat := (l.map g).sum
theorem sumK_take {g : Int → Nat} : ∀ {l : List Int} {k : Int}, l.Nodup → k ∈ l → sumK g (l.filter fun x => !decide (x = k)) + g k = sumK g l
  | [], _, _, h => absurd h (by simp)
  | x :: l, k, hn, h => by
    rw [List.nodup_cons] at hn
    by_cases e : x = k
    · subst e
      have h1 : (l.filter fun y => !decide (y = x)) = l := List.filter_eq_self.2 fun y hy => by
        have : y ≠ x := fun e => hn.1 (e ▸ hy)
        simp [this]
      have h2 : (List.filter (fun y => !decide (y = x)) (x :: l)) = l := by
        rw [List.filter_cons, if_neg (by simp), h1]
      rw [h2]; unfold sumK; rw [List.map_cons, List.sum_cons]; omega
    · have h1 : k ∈ l := (List.mem_cons.1 h).resolve_left fun e2 => e e2.symm
      have ih := sumK_take (g := g) hn.2 h1
      have h2 : (List.filter (fun y => !decide (y = k)) (x :: l)) = x :: l.filter fun y => !decide (y = k) := by
        rw [List.filter_cons, if_pos (by simp [e])]
      rw [h2]
      unfold sumK at ih ⊢
      rw [List.map_cons, List.sum_cons, List.map_cons, List.sum_cons]; omega
theorem used_sumK {fs : Fs} (hn : (fs.map Prod.fst).Nodup) : sumK (fun k => (fget fs k).b.length) (fs.map Prod.fst) = used fs := by
  unfold sumK used
  rw [List.map_map]
  congr 1
  refine List.map_congr_left fun p hp => ?_
  show (fget fs p.1).b.length = p.2.b.length
  rw [fget_mem hn (f := p.2) hp]
theorem left_lt {l : List Int} {k : Int} (h : k ∈ l) : (l.filter fun x => !decide (x = k)).length < l.length :=
  List.length_filter_lt_length_iff_exists.2 ⟨k, h, by simp⟩
theorem left_nodup {l : List Int} {k : Int} (h : l.Nodup) : (l.filter fun x => !decide (x = k)).Nodup := h.sublist List.filter_sublist
structure Ds where
  m : Nat
  fs : Fs
  room : Nat
  off : Bool
  armed : Bool
  left : Int
/-- the cells of a disk; its map stands in a block of its own -/
def dkC (s : Ds) : List Value := [.map (some s.m), I s.room, .bool s.off, .bool s.armed, I s.left]
structure OkF (fs : Fs) : Prop where
  keys : (fs.map Prod.fst).Nodup
  fits : ∀ p, p ∈ fs → 0 ≤ p.1 ∧ p.1 < 64
  each : ∀ p, p ∈ fs → p.2.b.length ≤ p.2.c ∧ p.2.dur ≤ p.2.b.length
  some : ∀ p, p ∈ fs → p.2.b ≠ []
def hardF (f : Fl) : Fl := { f with dur := f.b.length }
def hard (fs : Fs) : Fs := fs.map fun p => (p.1, hardF p.2)
/-- all but those that are left have been made durable -/
def hardBut (fs : Fs) (left : List Int) : Fs := fs.map fun p => if p.1 ∈ left then p else (p.1, hardF p.2)
theorem hardBut_all (fs : Fs) : hardBut fs (fs.map Prod.fst) = fs := by
  unfold hardBut
  conv => rhs; rw [← List.map_id fs]
  refine List.map_congr_left fun p hp => ?_
  rw [if_pos (List.mem_map_of_mem (f := Prod.fst) hp)]; rfl
theorem hardBut_none (fs : Fs) : hardBut fs [] = hard fs := by
  unfold hardBut hard
  refine List.map_congr_left fun p hp => by rw [if_neg (by simp)]
theorem hardBut_keys (fs : Fs) (left : List Int) : (hardBut fs left).map Prod.fst = fs.map Prod.fst := by
  unfold hardBut
  rw [List.map_map]
  refine List.map_congr_left fun p _ => ?_
  show (if p.1 ∈ left then p else (p.1, hardF p.2)).1 = p.1
  split <;> rfl
theorem hardBut_step : ∀ {fs : Fs} {left : List Int} {k : Int} {f : Fl}, (fs.map Prod.fst).Nodup → (k, f) ∈ fs → fset (hardBut fs left) k (hardF f) = hardBut fs (left.filter fun x => !decide (x = k))
  | [], _, _, _, _, h => absurd h (by simp)
  | p :: l, left, k, f, hn, h => by
    rw [List.map_cons, List.nodup_cons] at hn
    have e0 : ∀ (q : Int × Fl) (l : Fs) (left : List Int), hardBut (q :: l) left = (if q.1 ∈ left then q else (q.1, hardF q.2)) :: hardBut l left := fun _ _ _ => rfl
    rw [e0, e0, fset]
    have e1 : (if p.1 ∈ left then p else (p.1, hardF p.2)).1 = p.1 := by split <;> rfl
    rw [e1]
    by_cases e : p.1 = k
    · rw [if_pos e]
      have hf : p = (k, f) := by
        rcases List.mem_cons.1 h with h | h
        · exact h.symm
        · exact absurd (e ▸ List.mem_map_of_mem (f := Prod.fst) h) hn.1
      subst hf
      rw [if_neg (by simp)]
      congr 1
      unfold hardBut
      refine List.map_congr_left fun q hq => ?_
      have hne : q.1 ≠ k := fun e2 => hn.1 (by show k ∈ _; rw [← e2]; exact List.mem_map_of_mem (f := Prod.fst) hq)
      have : (q.1 ∈ left.filter fun x => !decide (x = k)) ↔ q.1 ∈ left := by simp [hne]
      simp only [this]
    · rw [if_neg e]
      have h1 : (k, f) ∈ l := (List.mem_cons.1 h).resolve_left fun e2 => e (by rw [← e2])
      rw [hardBut_step hn.2 h1]
      have : (p.1 ∈ left.filter fun x => !decide (x = k)) ↔ p.1 ∈ left := by simp [e]
      simp only [this]
theorem hardBut_left {fs : Fs} {left : List Int} {k : Int} {f : Fl} (h : (k, f) ∈ hardBut fs left) (hk : k ∈ left) : (k, f) ∈ fs := by
  obtain ⟨q, hq, e⟩ := List.mem_map.1 h
  have e1 : q.1 = k := by
    have := congrArg Prod.fst e
    simp only at this
    split at this <;> exact this
  rw [if_pos (by rw [e1]; exact hk)] at e
  exact e ▸ hq
theorem hardBut_in {fs : Fs} {left : List Int} {k : Int} {f : Fl} (h : (k, f) ∈ fs) : ∃ p, p ∈ fsV (hardBut fs left) ∧ p.1 = k := by
  have h1 : k ∈ (hardBut fs left).map Prod.fst := by rw [hardBut_keys]; exact List.mem_map_of_mem (f := Prod.fst) h
  rw [← fsV_keys] at h1
  obtain ⟨p, hp, e⟩ := List.mem_map.1 h1
  exact ⟨p, hp, e⟩
def stepS (s : Ds) : Ds := if s.armed then (if s.left - 1 < 0 then { s with left := s.left - 1, off := true, armed := false } else { s with left := s.left - 1 }) else s
def stepB (s : Ds) : Bool := if s.armed then !(stepS s).off else true
def setF (fs : Fs) (n : Int) (f : Fl) : Fs := if f.b.length = 0 then fdel (fset fs n f) n else fset fs n f
theorem St.hardF {w : World} {M : List HP} {F : List Fact} {fs : Fs} (h : AllF fs ∈ F) (hw : St w M F) : St w M (AllF (hard fs) :: F) := hw.derive fun K hf p hp => by
  obtain ⟨q, hq, rfl⟩ := List.mem_map.1 hp
  exact hf _ h q hq
theorem St.allF_get {w : World} {M : List HP} {F : List Fact} {fs : Fs} {k : Int} (h : AllF fs ∈ F) (hw : St w M F) : St w M (ArrF (fget fs k).oa (bytesV (fget fs k).b) :: F) := hw.derive fun K hf => by
  rcases fget_in (fs := fs) (k := k) with e | e
  · rw [e]; exact .inl rfl
  · exact hf _ h _ e
theorem St.allF_set {w : World} {M : List HP} {F : List Fact} {fs : Fs} {k : Int} {f : Fl} (h : AllF fs ∈ F) (hf : ArrF f.oa (bytesV f.b) ∈ F) (hw : St w M F) : St w M (AllF (fset fs k f) :: F) := hw.derive fun K ha p hp => by
  rcases fset_mem hp with e | e
  · subst e; exact ha _ hf
  · exact ha _ h p e
theorem St.allF_del {w : World} {M : List HP} {F : List Fact} {fs : Fs} {k : Int} (h : AllF fs ∈ F) (hw : St w M F) : St w M (AllF (fdel fs k) :: F) := hw.derive fun K ha p hp => ha _ h p (fdel_mem hp)
section
variable {P : Program} {r : Option Nat} {N : Nat} {ops : Array Oper} {rest : List Oper} {Q : Exit → Act → World → Prop} {E : Env} {ds : List Deferred} {M : List HP} {F : List Fact}
variable {d : Nat} {ty : TypeId} {pos : String} {aft : Array Edge} {gd : Option (Nat × Bool)}
theorem PV.lookupF {t k e : TypeId} {x y : Operand} {b : Nat} {n : Int} {fs : Fs} (i : Nat) (ht : tyMap P t k e = true) (hx : evalO E x = some (.map (some b))) (hy : evalO E y = some (I n)) (hn : I64 n) (hi : M[i]? = some (MpB b (fsV fs))) (hz : ∀ w, (zeroValue e).run P w = .ok (flV fl0) w) :
    PV P E M F ⟨some d, .lookup t x y false, ty, pos, aft, gd⟩ (flV (fget fs n)) := PV.cast (fsV_get fs n) (PV.lookup i ht hx hy hn hi hz)
theorem RL.lookupF {t k e : TypeId} {x y : Operand} {b : Nat} {n : Int} {fs : Fs} (i : Nat) (hg : wantedG ops E gd = some true) (ht : tyMap P t k e = true) (hx : evalO E x = some (.map (some b))) (hy : evalO E y = some (I n)) (hn : I64 n) (hi : M[i]? = some (MpB b (fsV fs))) (hz : ∀ w, (zeroValue e).run P w = .ok (flV fl0) w) (hN : Nat.ble (d + 1) N = true)
    (k : RL P r N ops rest Q ((d, flV (fget fs n)) :: E) ds M F) : RL P r N ops (⟨some d, .lookup t x y false, ty, pos, aft, gd⟩ :: rest) Q E ds M F :=
  RL.val rfl hg hN (PV.lookupF i ht hx hy hn hi hz).2 k
end
/-! ### What the operations do -/
def there (n : Int) : Prop := 0 ≤ n ∧ n < 64
instance (n : Int) : Decidable (there n) := by unfold there; infer_instance
def appF (s : Ds) (n : Int) (x : List UInt8) (z : RdX) : Fl := ⟨(fget s.fs n).b ++ x, (fget s.fs n).dur, z.oa, z.c⟩
def appE (s : Ds) (n : Int) (x : List UInt8) : Int := if ¬ there n then 1 else if s.off = true then 22 else if (s.room : Int) - used s.fs < x.length then 21 else if stepB s = true then 0 else 22
def appS (s : Ds) (n : Int) (x : List UInt8) (z : RdX) : Ds := if ¬ there n then s else if s.off = true then s else if (s.room : Int) - used s.fs < x.length then s else stepS { s with fs := setF s.fs n (appF s n x z) }
def syncE (s : Ds) : Int := if s.off = true ∨ stepB s = false then 22 else 0
def syncS (s : Ds) : Ds := if s.off = true then s else if stepB s = false then stepS s else { stepS s with fs := hard (stepS s).fs }
theorem stepB_fs (s : Ds) (fs : Fs) : stepB { s with fs := fs } = stepB s := by
  unfold stepB stepS
  by_cases h : s.armed = true
  · rw [if_pos h, if_pos h, if_pos h, if_pos h]
    by_cases h2 : s.left - 1 < 0
    · rw [if_pos h2, if_pos h2]
    · rw [if_neg h2, if_neg h2]
  · rw [if_neg h, if_neg h]
theorem stepS_fs (s : Ds) : (stepS s).fs = s.fs := by
  unfold stepS; split
  · split <;> rfl
  · rfl
theorem stepS_m (s : Ds) : (stepS s).m = s.m := by
  unfold stepS; split
  · split <;> rfl
  · rfl
theorem stepS_room (s : Ds) : (stepS s).room = s.room := by
  unfold stepS; split
  · split <;> rfl
  · rfl
theorem St.allF_setF {w : World} {M : List HP} {F : List Fact} {fs : Fs} {k : Int} {f : Fl} (h : AllF fs ∈ F) (hf : ArrF f.oa (bytesV f.b) ∈ F) (hw : St w M F) : St w M (AllF (setF fs k f) :: F) := hw.derive fun K ha p hp => by
  unfold setF at hp
  split at hp
  · rcases fset_mem (fdel_mem hp) with e | e
    · subst e; exact ha _ hf
    · exact ha _ h p e
  · rcases fset_mem hp with e | e
    · subst e; exact ha _ hf
    · exact ha _ h p e
theorem fget_each {fs : Fs} (h : OkF fs) (n : Int) : (fget fs n).b.length ≤ (fget fs n).c ∧ (fget fs n).dur ≤ (fget fs n).b.length := by
  rcases fget_in (fs := fs) (k := n) with e | e
  · rw [e]; exact ⟨Nat.le_refl _, Nat.le_refl _⟩
  · exact h.each _ e
theorem fget_used : ∀ (fs : Fs) (n : Int), (fget fs n).b.length ≤ used fs
  | [], _ => Nat.le_refl _
  | p :: l, n => by
    have ih := fget_used l n
    have e : used (p :: l) = p.2.b.length + used l := by unfold used; rw [List.map_cons, List.sum_cons]
    rw [fget, e]
    split <;> omega
theorem St.allF_keep {w : World} {M : List HP} {F : List Fact} {fs : Fs} (hw : St w M F) (h : AllF fs ∈ F) : St w M (AllF fs :: F) := hw.derive fun K hf => hf _ h
section
variable {P : Program} {r : Option Nat} {N : Nat} {ops : Array Oper} {rest : List Oper} {Q : Exit → Act → World → Prop} {E : Env} {ds : List Deferred} {M : List HP} {F : List Fact}
variable {d : Nat} {ty : TypeId} {pos : String} {aft : Array Edge} {gd : Option (Nat × Bool)}
theorem RL.fieldV {T f : Nat} {x : Operand} {v u : Value} (hg : wantedG ops E gd = some true) (hx : evalO E x = some v) (h : ∀ w, (Instr.field T v f).run P w = .ok u w) (hN : Nat.ble (d + 1) N = true) (k : RL P r N ops rest Q ((d, u) :: E) ds M F) : RL P r N ops (⟨some d, .field T x f, ty, pos, aft, gd⟩ :: rest) Q E ds M F :=
  RL.val rfl hg hN (fun ρ hρ w _ => by simp [execOp, hρ _ _ hx, h w]) k
end
def readE (s : Ds) (n : Int) : Int := if ¬ there n then 1 else if s.off = true then 22 else 0
def readB (s : Ds) (n : Int) : List UInt8 := if ¬ there n then [] else if s.off = true then [] else (fget s.fs n).b
def truncBad (s : Ds) (n k : Int) : Prop := ¬ there n ∨ k < 0 ∨ ((fget s.fs n).b.length : Int) < k
instance (s : Ds) (n k : Int) : Decidable (truncBad s n k) := by unfold truncBad; infer_instance
def truncF (s : Ds) (n : Int) (k : Nat) : Fl := ⟨(fget s.fs n).b.take k, min (fget s.fs n).dur k, cutA (fget s.fs n).oa 0 (fget s.fs n).c 1, (fget s.fs n).c⟩
def truncE (s : Ds) (n k : Int) : Int := if truncBad s n k then 1 else if s.off = true ∨ stepB s = false then 22 else 0
def truncS (s : Ds) (n k : Int) : Ds := if truncBad s n k then s else if s.off = true then s else if stepB s = false then stepS s else { stepS s with fs := setF (stepS s).fs n (truncF s n k.toNat) }
/-- the disk after a log in a calm disk has been opened -/
def openFs (s : Ds) (n : Int) : Fs := hard (if (framesJ 0 (scanJ 0 (fget s.fs n).b)).length < (fget s.fs n).b.length then setF s.fs n (truncF s n (framesJ 0 (scanJ 0 (fget s.fs n).b)).length) else s.fs)
theorem fdel_keys : ∀ (fs : Fs) (n : Int), ((fdel fs n).map Prod.fst).Sublist (fs.map Prod.fst)
  | [], _ => .slnil
  | p :: l, n => by
    rw [fdel]
    split
    · exact List.sublist_cons_self _ _
    · exact (fdel_keys l n).cons_cons _
theorem fset_keys : ∀ {fs : Fs} {n : Int} {f : Fl}, (fs.map Prod.fst).Nodup → ((fset fs n f).map Prod.fst).Nodup
  | [], n, f, _ => by simp [fset]
  | p :: l, n, f, h => by
    rw [List.map_cons, List.nodup_cons] at h
    rw [fset]
    split
    · rename_i e; rw [List.map_cons, List.nodup_cons]; exact ⟨by rw [← e]; exact h.1, h.2⟩
    · rename_i e
      rw [List.map_cons, List.nodup_cons]
      refine ⟨fun hm => ?_, fset_keys h.2⟩
      obtain ⟨q, hq, e2⟩ := List.mem_map.1 hm
      rcases fset_mem hq with e3 | e3
      · subst e3; exact e e2.symm
      · exact h.1 (e2 ▸ List.mem_map_of_mem (f := Prod.fst) e3)
theorem OkF.setF {fs : Fs} {n : Int} {f : Fl} (h : OkF fs) (hn : there n) (hf : f.b.length ≤ f.c ∧ f.dur ≤ f.b.length) : OkF (setF fs n f) := by
  unfold Go.GL.setF
  split
  · rename_i h0
    have hm : ∀ p, p ∈ fdel (fset fs n f) n → p ∈ fs := by
      intro p hp
      have hk := fset_keys (f := f) (n := n) h.keys
      rcases fset_mem (fdel_mem hp) with e | e
      · exfalso
        have : ∀ (l : Fs), (l.map Prod.fst).Nodup → ∀ q, q ∈ fdel l n → q.1 ≠ n := by
          intro l
          induction l with
          | nil => intro _ q hq; simp [fdel] at hq
          | cons a l ih =>
            intro hn2 q hq
            rw [List.map_cons, List.nodup_cons] at hn2
            rw [fdel] at hq
            split at hq
            · rename_i e2
              intro e3; exact hn2.1 (by rw [e2, ← e3]; exact List.mem_map_of_mem (f := Prod.fst) hq)
            · rename_i e2
              rcases List.mem_cons.1 hq with e3 | e3
              · rw [e3]; exact e2
              · exact ih hn2.2 q e3
        exact this _ hk p hp (by rw [e])
      · exact e
    exact ⟨(fset_keys h.keys).sublist (fdel_keys _ _), fun p hp => h.fits p (hm p hp), fun p hp => h.each p (hm p hp), fun p hp => h.some p (hm p hp)⟩
  · rename_i h0
    refine ⟨fset_keys h.keys, fun p hp => ?_, fun p hp => ?_, fun p hp => ?_⟩
    · rcases fset_mem hp with e | e
      · rw [e]; exact hn
      · exact h.fits p e
    · rcases fset_mem hp with e | e
      · rw [e]; exact hf
      · exact h.each p e
    · rcases fset_mem hp with e | e
      · rw [e]; intro e2; exact h0 (by show f.b.length = 0; rw [show f.b = [] from e2]; rfl)
      · exact h.some p e
theorem OkF.hard {fs : Fs} (h : OkF fs) : OkF (hard fs) := by
  have hk : (Go.GL.hard fs).map Prod.fst = fs.map Prod.fst := by unfold Go.GL.hard; rw [List.map_map]; rfl
  refine ⟨by rw [hk]; exact h.keys, fun p hp => ?_, fun p hp => ?_, fun p hp => ?_⟩ <;> obtain ⟨q, hq, rfl⟩ := List.mem_map.1 hp
  · exact h.fits q hq
  · exact ⟨(h.each q hq).1, Nat.le_refl _⟩
  · exact h.some q hq
theorem OkF.nil : OkF [] := ⟨List.nodup_nil, fun _ h => absurd h (by simp), fun _ h => absurd h (by simp), fun _ h => absurd h (by simp)⟩
theorem fget_set : ∀ (fs : Fs) (n : Int) (f : Fl), fget (fset fs n f) n = f
  | [], n, f => by simp [fset, fget]
  | p :: l, n, f => by
    rw [fset]
    split
    · rw [fget, if_pos rfl]
    · rename_i e; rw [fget, if_neg e, fget_set l n f]
theorem fget_other : ∀ (fs : Fs) (n k : Int) (f : Fl), k ≠ n → fget (fset fs n f) k = fget fs k
  | [], n, k, f, h => by show (if n = k then f else fl0) = fl0; rw [if_neg (fun e => h e.symm)]
  | p :: l, n, k, f, h => by
    rw [fset]
    split
    · rename_i e; rw [fget, fget, if_neg (fun e2 => h e2.symm), if_neg (fun e2 => h (by rw [← e2, e]))]
    · rw [fget, fget]
      split
      · rfl
      · exact fget_other l n k f h
theorem fget_hard : ∀ (fs : Fs) (n : Int), fget (hard fs) n = hardF (fget fs n)
  | [], n => rfl
  | p :: l, n => by
    show (if p.1 = n then hardF p.2 else fget (hard l) n) = _
    rw [fget]
    split
    · rfl
    · exact fget_hard l n
theorem used_hard (fs : Fs) : used (hard fs) = used fs := by unfold used hard; rw [List.map_map]; rfl
theorem used_set : ∀ (fs : Fs) (n : Int) (f : Fl), used (fset fs n f) + (fget fs n).b.length = used fs + f.b.length
  | [], n, f => by simp [used, fset, fget, fl0]
  | p :: l, n, f => by
    have e : ∀ (q : Int × Fl) (l : Fs), used (q :: l) = q.2.b.length + used l := fun q l => by unfold used; rw [List.map_cons, List.sum_cons]
    rw [fset, fget]
    split
    · rw [e, e]; show f.b.length + used l + p.2.b.length = _; omega
    · rw [e, e]; have := used_set l n f; omega
theorem NX.ret3 {N : Nat} {P : Program} {E : Env} {M : List HP} {F : List Fact} {fn : Func} {t u x : Nat} {v v' v'' : Value} {ι : Type} {val : ι → Value} {M' : ι → List HP} {F' : ι → List Fact} (i : ι) (hr : fn.results = #[.tmp t, .tmp u, .tmp x]) (ht : look E t = some v) (hu : look E u = some v') (hx : look E x = some v'') (hv : .tuple #[v, v', v''] = val i) (hS : ∀ w, St w M F → St w (M' i) (F' i)) :
    NX N .ret (bodyPost P fn (Post val M' F')) E [] M F := fun a w ha hw => by
  refine ⟨ha.defers, .tuple #[v, v', v''], ?_, i, by rw [hv], hS w hw⟩
  simp [results, hr, ha.get t v ht, ha.get u v' hu, ha.get x v'' hx]
/-! ### A log -/
structure Lg where
  f : Int
  n : Nat
  dn : Bool
def lgC (b : Nat) (g : Lg) : List Value := [.pointer (some ⟨b, 0, none⟩), I g.f, I g.n, .bool g.dn]
def lgFr (g : Lg) (x : List UInt8) : List UInt8 := frameJ (g.n : Int) x
def lgE (s : Ds) (g : Lg) (x : List UInt8) (z : RdX) : Int := if (65536 : Int) < x.length then 4 else if g.dn = true then 22 else if appE s g.f (lgFr g x) ≠ 0 then appE s g.f (lgFr g x) else syncE (appS s g.f (lgFr g x) z)
def lgS (s : Ds) (g : Lg) (x : List UInt8) (z : RdX) : Ds := if (65536 : Int) < x.length then s else if g.dn = true then s else if appE s g.f (lgFr g x) ≠ 0 then appS s g.f (lgFr g x) z else syncS (appS s g.f (lgFr g x) z)
def lgN (g : Lg) (e : Int) : Lg := { g with n := if e = 0 then g.n + 1 else g.n, dn := decide (e = 22) }
def lgG (s : Ds) (g : Lg) (x : List UInt8) (z : RdX) : Lg := if (65536 : Int) < x.length then g else lgN g (lgE s g x z)
theorem appS_ok {s : Ds} {n : Int} {x : List UInt8} {z : RdX} (h : OkF s.fs) (hz : ((fget s.fs n).b ++ x).length ≤ z.c) : OkF (appS s n x z).fs := by
  unfold appS
  split
  · exact h
  · rename_i h1
    split
    · exact h
    · split
      · exact h
      · rw [stepS_fs]
        exact OkF.setF h (Decidable.not_not.1 h1) ⟨hz, by have := (fget_each h n).2; show (fget s.fs n).dur ≤ ((fget s.fs n).b ++ x).length; rw [List.length_append]; omega⟩
theorem stepS_left (s : Ds) : (stepS s).left = s.left ∨ (stepS s).left = s.left - 1 := by
  unfold stepS; split
  · split
    · exact .inr rfl
    · exact .inr rfl
  · exact .inl rfl
theorem appS_left (s : Ds) (n : Int) (x : List UInt8) (z : RdX) : (appS s n x z).left = s.left ∨ (appS s n x z).left = s.left - 1 := by
  unfold appS
  split
  · exact .inl rfl
  · split
    · exact .inl rfl
    · split
      · exact .inl rfl
      · exact stepS_left _
theorem syncS_fs (s : Ds) : (syncS s).fs = s.fs ∨ (syncS s).fs = hard s.fs := by
  unfold syncS
  split
  · exact .inl rfl
  · split
    · exact .inl (stepS_fs s)
    · exact .inr (by show hard (stepS s).fs = _; rw [stepS_fs])
theorem St.allF_sync {w : World} {M : List HP} {F : List Fact} {s : Ds} (h : AllF s.fs ∈ F) (hw : St w M F) : St w M (AllF (syncS s).fs :: F) := by
  rcases syncS_fs s with e | e
  · exact hw.derive (fun K hf => by rw [e]; exact hf _ h)
  · rw [e]; exact hw.hardF h
theorem lgE_far {s : Ds} {g : Lg} {x : List UInt8} {z : RdX} (h : (65536 : Int) < x.length) : lgE s g x z = 4 ∧ lgS s g x z = s ∧ lgG s g x z = g := by
  refine ⟨?_, ?_, ?_⟩
  · unfold lgE; rw [if_pos h]
  · unfold lgS; rw [if_pos h]
  · unfold lgG; rw [if_pos h]
theorem lgE_dn {s : Ds} {g : Lg} {x : List UInt8} {z : RdX} (h : ¬ (65536 : Int) < x.length) (hd : g.dn = true) : lgE s g x z = 22 ∧ lgS s g x z = s ∧ lgG s g x z = lgN g 22 := by
  have h1 : lgE s g x z = 22 := by unfold lgE; rw [if_neg h, if_pos hd]
  refine ⟨h1, ?_, ?_⟩
  · unfold lgS; rw [if_neg h, if_pos hd]
  · unfold lgG; rw [if_neg h, h1]
theorem lgE_app {s : Ds} {g : Lg} {x : List UInt8} {z : RdX} (h : ¬ (65536 : Int) < x.length) (hd : ¬ g.dn = true) (ha : appE s g.f (lgFr g x) ≠ 0) : lgE s g x z = appE s g.f (lgFr g x) ∧ lgS s g x z = appS s g.f (lgFr g x) z ∧ lgG s g x z = lgN g (appE s g.f (lgFr g x)) := by
  have h1 : lgE s g x z = appE s g.f (lgFr g x) := by unfold lgE; rw [if_neg h, if_neg hd, if_pos ha]
  refine ⟨h1, ?_, ?_⟩
  · unfold lgS; rw [if_neg h, if_neg hd, if_pos ha]
  · unfold lgG; rw [if_neg h, h1]
theorem lgE_sync {s : Ds} {g : Lg} {x : List UInt8} {z : RdX} (h : ¬ (65536 : Int) < x.length) (hd : ¬ g.dn = true) (ha : ¬ appE s g.f (lgFr g x) ≠ 0) : lgE s g x z = syncE (appS s g.f (lgFr g x) z) ∧ lgS s g x z = syncS (appS s g.f (lgFr g x) z) ∧ lgG s g x z = lgN g (syncE (appS s g.f (lgFr g x) z)) := by
  have h1 : lgE s g x z = syncE (appS s g.f (lgFr g x) z) := by unfold lgE; rw [if_neg h, if_neg hd, if_neg ha]
  refine ⟨h1, ?_, ?_⟩
  · unfold lgS; rw [if_neg h, if_neg hd, if_neg ha]
  · unfold lgG; rw [if_neg h, h1]
/-! ### CalmD disks: on, and no failure planned -/
structure CalmD (s : Ds) : Prop where
  off : s.off = false
  armed : s.armed = false
theorem CalmD.step {s : Ds} (h : CalmD s) : stepS s = s ∧ stepB s = true := by
  constructor
  · unfold stepS; rw [if_neg (by rw [h.armed]; simp)]
  · unfold stepB; rw [if_neg (by rw [h.armed]; simp)]
theorem CalmD.sync {s : Ds} (h : CalmD s) : syncE s = 0 ∧ syncS s = { s with fs := hard s.fs } := by
  have h1 : ¬ s.off = true := by rw [h.off]; simp
  have h2 : ¬ stepB s = false := by rw [h.step.2]; simp
  constructor
  · unfold syncE; rw [if_neg (fun e => e.elim h1 h2)]
  · unfold syncS; rw [if_neg h1, if_neg h2, h.step.1]
theorem CalmD.trunc {s : Ds} {n : Int} {k : Nat} (h : CalmD s) (hb : ¬ truncBad s n k) : truncE s n k = 0 ∧ truncS s n k = { s with fs := setF s.fs n (truncF s n k) } := by
  have h1 : ¬ s.off = true := by rw [h.off]; simp
  have h2 : ¬ stepB s = false := by rw [h.step.2]; simp
  constructor
  · unfold truncE; rw [if_neg hb, if_neg (fun e => e.elim h1 h2)]
  · unfold truncS; rw [if_neg hb, if_neg h1, if_neg h2, h.step.1, Int.toNat_natCast]
theorem CalmD.read {s : Ds} {n : Int} (h : CalmD s) (hn : there n) : readE s n = 0 ∧ readB s n = (fget s.fs n).b := by
  have h1 : ¬ s.off = true := by rw [h.off]; simp
  constructor
  · unfold readE; rw [if_neg (show ¬ ¬ there n from fun e => e hn), if_neg h1]
  · unfold readB; rw [if_neg (show ¬ ¬ there n from fun e => e hn), if_neg h1]
theorem truncF_ok {s : Ds} (h : OkF s.fs) (n : Int) (k : Nat) : (truncF s n k).b.length ≤ (truncF s n k).c ∧ (truncF s n k).dur ≤ (truncF s n k).b.length := by
  have := fget_each h n
  show ((fget s.fs n).b.take k).length ≤ (fget s.fs n).c ∧ min (fget s.fs n).dur k ≤ ((fget s.fs n).b.take k).length
  rw [List.length_take]; omega
theorem scan_le {b : List UInt8} : (framesJ 0 (scanJ 0 b)).length ≤ b.length := by
  obtain ⟨r, hr⟩ := scanJ_split b.length b 0 (Nat.le_refl _)
  have := congrArg List.length hr
  rw [List.length_append] at this; omega
end Go.GL
